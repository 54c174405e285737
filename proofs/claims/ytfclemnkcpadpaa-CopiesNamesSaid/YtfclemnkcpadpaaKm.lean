/- copies: latest, earliest -/
import Derived.Test.YtfclemnkcpadpaaKl
namespace Go.Proofs.Ytfclemnkcpadpaa
set_option linter.unusedVariables false
set_option linter.unusedSimpArgs false
set_option linter.unnecessarySimpa false
open Go.RowKit Go.Flow Go.Shelf

def lossyK (p : Post) (k : Nat) : Bool := ((p.routes[k]?).map (·.lossy)).getD false
def latN (p : Post) (i k : Nat) : Int := (List.range k).foldl (fun n j => if lossyK p j then n else min n (lastH (hrF p i j))) 101
def earN (p : Post) (i k : Nat) : Int := (List.range k).foldl (fun n j => min n (firstH (hrF p i j))) 101
def latestF (p : Post) (i : Nat) : Int := latN p i p.routes.length
def earliestF (p : Post) (i : Nat) : Int := earN p i p.routes.length
theorem latN_succ (p : Post) (i k : Nat) : latN p i (k + 1) = if lossyK p k then latN p i k else min (latN p i k) (lastH (hrF p i k)) := by simp [latN, List.range_succ]
theorem earN_succ (p : Post) (i k : Nat) : earN p i (k + 1) = min (earN p i k) (firstH (hrF p i k)) := by simp [earN, List.range_succ]
theorem hrList_ne {f : Hrs} (h : HrsLe f 100) (hne : ∃ n, f n = true) : hrList f ≠ [] := by
  obtain ⟨n, hn⟩ := hne
  have := h n hn
  unfold hrList
  intro e
  have h2 : n ∈ (List.range 101).filter f := List.mem_filter.2 ⟨by simp; omega, hn⟩
  rw [List.map_eq_nil_iff] at e
  rw [e] at h2
  cases h2
theorem post_hrs {p : Post} (h : postErr p = 0) {i k : Nat} (hi : i < p.sends.length) (hk : k < p.routes.length) : HrsLe (hrF p i k) 48 ∧ ∃ n, hrF p i k n = true := by
  obtain ⟨_, _, few, _, _, _, _, _, rok⟩ := postErr_ok h
  have hs := (post_hours h).s _ (List.getElem_mem hi)
  unfold hrF
  rw [List.getElem?_eq_getElem hk]
  simp only [Option.map_some, Option.getD_some]
  rw [show p.sends.getD i 0 = p.sends[i] by simp [hi]]
  exact routeHr_ok (List.all_eq_true.1 few _ (List.getElem_mem hk)) (List.all_eq_true.1 rok _ (List.getElem_mem hk)) hs
theorem WorkAt.below {p : Post} {a : Option Addr} {c : Nat} {ar : Option Addr} {cr Bw : Nat} {W W' : World} (h : WorkAt p a c ar cr Bw W) (hb : Below W.heap.size W W') : WorkAt p a c ar cr Bw W' :=
  let ⟨Bm, n, h1, h2⟩ := h; ⟨Bm, n, h1.below hb, h2.below hb⟩

set_option maxRecDepth 100000 in
set_option maxHeartbeats 4000000 in
theorem latest_any (a : Option Addr) (c : Nat) (ar : Option Addr) (cr : Nat) (p : Post) (Bw i : Nat) (w : World) (hw : WorkAt p a c ar cr Bw w) (hr : RoutesAt w ar p.routes) (r3 : p.routes.length ≤ 3) (hi : i < p.sends.length) (n4 : p.sends.length ≤ 4) (hh : ∀ k, k < p.routes.length → hrList (hrF p i k) ≠ []) :
    Calls Try.prog 74 #[.pointer (some ⟨Bw, 0, none⟩), .int .i64 i] w fun e w' => e = .returned (.int .i64 (latestF p i)) ∧ Below w.heap.size w w' := by
  obtain ⟨Bm, nm, cW, hH⟩ := hw
  have q1 := cW.cell 1
  have q3 := cW.cell 3
  have lW := cW.lt
  simp at q1 q3
  go_enter Try.func74, Try.ntmps74
  go_wp2
  go_loopw [5, 14] (fun v o wr => ∃ k : Nat, k ≤ p.routes.length ∧ o = .int .i64 k ∧ v = .int .i64 (latN p i k) ∧ Below w.heap.size w wr) (fun _ o _ => p.routes.length - (intOf o).toNat)
  case atStart => exact ⟨0, Nat.zero_le _, rfl, rfl, Below.refl _ _⟩
  case round =>
    obtain ⟨k, hk, rfl, rfl, hb⟩ := hrel
    have p3 := below_c hb lW q3
    have lP := cell_ltK p3
    by_cases hkl : k < p.routes.length
    · obtain ⟨b4, off4, al, ca, rfl, hbl4, e0, e1, eL⟩ := (hr.below hb) k hkl
      have Hs := Lib.hid (latN_succ p i k)
      have hly : Hid (lossyK p k = p.routes[k].lossy) := Lib.hid (by unfold lossyK; rw [List.getElem?_eq_getElem hkl]; rfl)
      obtain ⟨Sb, hrun, hSC⟩ := (hH.below hb).look i k ⟨hi, hkl⟩ (by omega) (by omega)
      have hrun' := fun o => hrun ⟨wr.alloc o, (Below.refl _ _).alloc (Nat.le_refl _) _⟩
      dsimp only at hrun'
      clear hrun
      obtain ⟨lo, hlo⟩ : ∃ x, p.routes[k].lossy = x := ⟨_, rfl⟩
      rw [hlo] at e1 hly
      clear hlo
      have hkI : (k : Int) < (p.routes.length : Int) := by omega
      have wb : ∀ o, Below wr.heap.size wr (wr.alloc o) := fun o => (Below.refl _ _).alloc (Nat.le_refl _) _
      obtain ⟨m, hm⟩ : ∃ m, latN p i k = m := ⟨_, rfl⟩
      rw [hm] at Hs ⊢
      clear hm
      obtain ⟨z, hz⟩ : ∃ z, lastH (hrF p i k) = z := ⟨_, rfl⟩
      have hl := fun o => last_any Sb (hrF p i k) z (Lib.hid hz) (wr.alloc o) (hSC.below (wb o)) (hh k hkl)
      rw [hz] at Hs
      clear hz hSC
      cases lo
      · go_wp2_with fail
        go_at_call 103
        with_reducible refine (hl _).mono ?_
        rintro e w1 ⟨rfl, hb1⟩
        go_wp2_with (go_at_call 96; (with_reducible refine (smallest_any _ m z 2 _ (ints2 w1 m z _)).mono ?_); rintro e w2 ⟨rfl, rfl⟩)
        go_roundw
        case rel => exact ⟨k + 1, by omega, by go_num, by rw [Hs.out, hly.out]; rfl, hb.trans ((((wb _).trans (hb1.mono (wb _).size)).alloc (Nat.le_trans (wb _).size hb1.size) _).mono hb.size)⟩
        case measure => simp [intOf]; omega
      · go_wp2_with fail
        go_roundw
        case rel => exact ⟨k + 1, by omega, by go_num, by rw [Hs.out, hly.out]; rfl, hb.trans ((wb _).mono hb.size)⟩
        case measure => simp [intOf]; omega
    · obtain rfl : k = p.routes.length := by omega
      go_wp2
      go_ret
      exact ⟨rfl, hb⟩

theorem listO_any (Sb : Nat) (f : Hrs) (w : World) (hS : SetC w Sb f) (hne : hrList f ≠ []) (x : Int) (Hx : Hid (firstH f = x)) :
    Calls Try.prog 71 #[.pointer (some ⟨Sb, 0, none⟩)] w fun e w' => (∃ b n c, e = .returned (.slice (some ⟨b, 0, none⟩) n c) ∧ 0 < n ∧ w'.cell? ⟨b, 0, none⟩ = some (.int .i64 x)) ∧ Below w.heap.size w w' := by
  refine (list_any Sb f _ (Lib.hid rfl) w hS).mono ?_
  rintro e w' ⟨⟨a, c, rfl, ho⟩, hb⟩
  have hpos : 0 < (hrList f).length := List.length_pos_iff.2 hne
  rcases ho.form with ⟨_, _, h3, _⟩ | ⟨g, rfl, _, _, _, _, _, hc⟩
  · omega
  · refine ⟨⟨g, _, c, rfl, hpos, ?_⟩, hb⟩
    have := hc 0 (.int .i64 ((hrList f)[0])) (by simp [hpos])
    rw [this, ← Hx.out]
    simp [firstH, hpos]
set_option maxRecDepth 100000 in
set_option maxHeartbeats 4000000 in
theorem earliest_any (a : Option Addr) (c : Nat) (ar : Option Addr) (cr : Nat) (p : Post) (Bw i : Nat) (w : World) (hw : WorkAt p a c ar cr Bw w) (r3 : p.routes.length ≤ 3) (hi : i < p.sends.length) (n4 : p.sends.length ≤ 4) (hh : ∀ k, k < p.routes.length → hrList (hrF p i k) ≠ []) :
    Calls Try.prog 73 #[.pointer (some ⟨Bw, 0, none⟩), .int .i64 i] w fun e w' => e = .returned (.int .i64 (earliestF p i)) ∧ Below w.heap.size w w' := by
  obtain ⟨Bm, nm, cW, hH⟩ := hw
  have q1 := cW.cell 1
  have q3 := cW.cell 3
  have lW := cW.lt
  simp at q1 q3
  go_enter Try.func73, Try.ntmps73
  go_wp2
  go_loopw [5, 13] (fun v o wr => ∃ k : Nat, k ≤ p.routes.length ∧ o = .int .i64 k ∧ v = .int .i64 (earN p i k) ∧ Below w.heap.size w wr) (fun _ o _ => p.routes.length - (intOf o).toNat)
  case atStart => exact ⟨0, Nat.zero_le _, rfl, rfl, Below.refl _ _⟩
  case round =>
    obtain ⟨k, hk, rfl, rfl, hb⟩ := hrel
    have p3 := below_c hb lW q3
    have lP := cell_ltK p3
    by_cases hkl : k < p.routes.length
    · have Hs := Lib.hid (earN_succ p i k)
      obtain ⟨Sb, hrun, hSC⟩ := (hH.below hb).look i k ⟨hi, hkl⟩ (by omega) (by omega)
      have hrun' := hrun ⟨wr, Below.refl _ _⟩
      dsimp only at hrun'
      clear hrun
      obtain ⟨m, hm⟩ : ∃ m, earN p i k = m := ⟨_, rfl⟩
      rw [hm] at Hs ⊢
      clear hm
      obtain ⟨z, hz⟩ : ∃ z, firstH (hrF p i k) = z := ⟨_, rfl⟩
      have hl := listO_any Sb (hrF p i k) wr hSC (hh k hkl) z (Lib.hid hz)
      rw [hz] at Hs
      clear hz hSC
      go_wp2_with fail
      go_at_call 71
      with_reducible refine hl.mono ?_
      rintro e w1 ⟨⟨b, n, c1, rfl, hn, hc⟩, hb1⟩
      have hnI : (0 : Int) < (n : Int) := by omega
      go_wp2_with (go_at_call 96; (with_reducible refine (smallest_any _ m z 2 _ (ints2 w1 m z _)).mono ?_); rintro e w2 ⟨rfl, rfl⟩)
      go_roundw
      case rel => exact ⟨k + 1, by omega, by go_num, by rw [Hs.out], hb.trans ((hb1.alloc hb1.size _).mono hb.size)⟩
      case measure => simp [intOf]; omega
    · obtain rfl : k = p.routes.length := by omega
      go_wp2
      go_ret
      exact ⟨rfl, hb⟩
end Go.Proofs.Ytfclemnkcpadpaa
