/- pay: the chapter's account in blocks of its own; calls of the chapter's examples -/
import Derived.Test.YtomjlmhnjgohdaaIa
import Derived.Test.YtomjlmhnjgohdaaIb
namespace Go.Proofs.Ytomjlmhnjgohdaa
set_option linter.unusedVariables false
set_option linter.unusedSimpArgs false
set_option linter.unnecessarySimpa false
open Go.RowKit Go.Flow Go.Shelf

structure TwoA (w : World) (lo hi g1 g2 gd : Nat) : Prop where
  c1 : Cells w g1 #[.int .i64 1, .int .i64 2, .int .i64 3] 3
  c2 : Cells w g2 #[.int .i64 2] 3
  c3 : Cells w gd #[.int .i64 0, .int .i64 10, .int .i64 14, .slice (some ⟨g1, 0, none⟩) 3 3, .int .i64 3, .int .i64 7, .int .i64 7, .slice (some ⟨g2, 0, none⟩) 1 1] 93
  r1 : lo ≤ g1 ∧ g1 < hi
  r2 : lo ≤ g2 ∧ g2 < hi
  r3 : lo ≤ gd ∧ gd < hi
  n13 : g1 ≠ gd
  n23 : g2 ≠ gd
  n12 : g1 ≠ g2
theorem TwoA.below {w w' : World} {lo hi g1 g2 gd : Nat} (h : TwoA w lo hi g1 g2 gd) (hb : Below w.heap.size w w') : TwoA w' lo hi g1 g2 gd := ⟨h.c1.below hb, h.c2.below hb, h.c3.below hb, h.r1, h.r2, h.r3, h.n13, h.n23, h.n12⟩
theorem TwoA.other {w : World} {lo hi g1 g2 gd : Nat} (h : TwoA w lo hi g1 g2 gd) {x : Nat} (hx : x < lo ∨ hi ≤ x) (k : Nat) (v : Value) : TwoA (w.setCell ⟨x, k, none⟩ v) lo hi g1 g2 gd := by
  have h1 := h.r1; have h2 := h.r2; have h3 := h.r3
  exact ⟨h.c1.other (by omega) k v, h.c2.other (by omega) k v, h.c3.other (by omega) k v, h.r1, h.r2, h.r3, h.n13, h.n23, h.n12⟩
theorem dis_two {w : World} {g2 gd : Nat} {py lo hi : Int} {l : List Int} {al : Option Addr} {c : Nat} (hp : PassAt w al c l) (h2 : Cells w g2 #[.int .i64 2] 3)
    (h3 : Cells w gd #[.int .i64 py, .int .i64 lo, .int .i64 hi, .slice al l.length c, .int .i64 3, .int .i64 7, .int .i64 7, .slice (some ⟨g2, 0, none⟩) 1 1] 93) : DisAt w (some ⟨gd, 0, none⟩) [⟨py, lo, hi, l⟩, ⟨3, 7, 7, [2]⟩] := fun k hk => by
  have lD := h3.lt
  match k, hk with
  | 0, _ => exact ⟨gd, 0, al, c, rfl, lD, by rw [h3.cell]; rfl, by rw [h3.cell]; rfl, by rw [h3.cell]; rfl, by rw [h3.cell]; rfl, hp⟩
  | 1, _ => exact ⟨gd, 0, some ⟨g2, 0, none⟩, 1, rfl, lD, by rw [h3.cell]; rfl, by rw [h3.cell]; rfl, by rw [h3.cell]; rfl, by rw [h3.cell]; rfl, ⟨h2.ints [2] rfl, Nat.le_refl _, fun h => by cases h⟩⟩
theorem TwoA.dis {w : World} {lo hi g1 g2 gd : Nat} (h : TwoA w lo hi g1 g2 gd) : DisAt w (some ⟨gd, 0, none⟩) exDs :=
  dis_two (l := [1, 2, 3]) ⟨h.c1.ints [1, 2, 3] rfl, Nat.le_refl _, fun h => by cases h⟩ h.c2 h.c3
set_option maxHeartbeats 1000000 in
theorem twoI_any (w : World) : Calls Try.prog 50 #[] w fun e w' => (∃ g1 g2 gd, e = .returned (.agg #[.int .i64 4, .int .i64 3, .int .i64 10, .slice (some ⟨gd, 0, none⟩) 2 2]) ∧ TwoA w' w.heap.size w'.heap.size g1 g2 gd) ∧ Below w.heap.size w w' := by
  have hb1 := fun W => between_any 10 14 W
  have hb2 := fun W => between_any 7 7 W
  have CR := Cells.new w #[.int .i64 0, .int .i64 0, .int .i64 0, .slice none 0 0] 32
  go_enter Try.func50, Try.ntmps50
  go_wp2_with fail
  go_at_call 44
  refine (hb1 _).mono ?_
  rintro e w1 ⟨rfl, b1⟩
  have CR1 := CR.below b1
  have t1 : Below w.heap.size w w1 := by (repeat (first | exact Below.refl _ _ | refine Below.alloc ?_ (by first | omega | (simp; done) | (simp; omega)) _ | refine Below.drew ?_ | refine Below.setCell ?_ (by first | omega | (simp; done) | (simp; omega)) _ | refine Below.trans ?_ (Below.mono (by assumption) (by first | omega | (simp; done) | (simp; omega)))))
  have b1' : w.heap.size < w1.heap.size := CR1.lt
  clear b1
  go_wp2_with fail
  go_at_call 44
  refine (hb2 _).mono ?_
  rintro e w2 ⟨rfl, b2⟩
  have L1 := (Cells.new w1 #[.int .i64 1, .int .i64 2, .int .i64 3] 3).below b2
  have CR2 := (CR1.alloc (.cells #[.int .i64 1, .int .i64 2, .int .i64 3] 3)).below b2
  have t2 : Below w.heap.size w w2 := by (repeat (first | exact Below.refl _ _ | refine Below.alloc ?_ (by first | omega | (simp; done) | (simp; omega)) _ | refine Below.drew ?_ | refine Below.setCell ?_ (by first | omega | (simp; done) | (simp; omega)) _ | refine Below.trans ?_ (Below.mono (by assumption) (by first | omega | (simp; done) | (simp; omega)))))
  have z2 : w1.heap.size < w2.heap.size := by have := b2.size; simp at this; omega
  obtain ⟨g1, hg1⟩ : ∃ g1, w1.heap.size = g1 := ⟨_, rfl⟩
  rw [hg1] at L1 z2
  have q0 := CR2.cell 0
  have q1 := CR2.cell 1
  have q2 := CR2.cell 2
  have q3 := CR2.cell 3
  have f0 := CR2.frozen 0
  have f1 := CR2.frozen 1
  have f2 := CR2.frozen 2
  have f3 := CR2.frozen 3
  have lq := CR2.lt
  simp at q0 q1 q2 q3
  rw [hg1]
  go_wp2
  have hne : g1 ≠ w.heap.size := by omega
  have CR3 := (((CR2.set 0 (.int .i64 4)).set 1 (.int .i64 3)).set 2 (.int .i64 10)).set 3 (.slice (some ⟨w2.heap.size + 1, 0, none⟩) 2 2)
  have L3 := (((L1.other hne 0 (.int .i64 4)).other hne 1 (.int .i64 3)).other hne 2 (.int .i64 10)).other hne 3 (.slice (some ⟨w2.heap.size + 1, 0, none⟩) 2 2)
  obtain ⟨W3, hW3⟩ : ∃ z : World, z = (((w2.setCell ⟨w.heap.size, 0, none⟩ (.int .i64 4)).setCell ⟨w.heap.size, 1, none⟩ (.int .i64 3)).setCell ⟨w.heap.size, 2, none⟩ (.int .i64 10)).setCell ⟨w.heap.size, 3, none⟩ (.slice (some ⟨w2.heap.size + 1, 0, none⟩) 2 2) := ⟨_, rfl⟩
  have t3 : Below w.heap.size w W3 := by rw [hW3]; exact (((t2.setCell (by simp) _).setCell (by simp) _).setCell (by simp) _).setCell (by simp) _
  have z3 : W3.heap.size = w2.heap.size := by rw [hW3]; simp
  rw [← hW3] at CR3 L3 ⊢
  rw [← z3] at CR3 ⊢
  clear hW3 q0 q1 q2 q3 f0 f1 f2 f3 lq CR2 L1
  have M2 := (Cells.new W3 #[.int .i64 2] 3).alloc (.cells #[.int .i64 0, .int .i64 10, .int .i64 14, .slice (some ⟨g1, 0, none⟩) 3 3, .int .i64 3, .int .i64 7, .int .i64 7, .slice (some ⟨W3.heap.size, 0, none⟩) 1 1] 93)
  have D2 := Cells.new' (W3.alloc (.cells #[.int .i64 2] 3)) #[.int .i64 0, .int .i64 10, .int .i64 14, .slice (some ⟨g1, 0, none⟩) 3 3, .int .i64 3, .int .i64 7, .int .i64 7, .slice (some ⟨W3.heap.size, 0, none⟩) 1 1] 93 (W3.heap.size + 1) (by simp)
  have L5 := (L3.alloc (.cells #[.int .i64 2] 3)).alloc (.cells #[.int .i64 0, .int .i64 10, .int .i64 14, .slice (some ⟨g1, 0, none⟩) 3 3, .int .i64 3, .int .i64 7, .int .i64 7, .slice (some ⟨W3.heap.size, 0, none⟩) 1 1] 93)
  have CR5 := (CR3.alloc (.cells #[.int .i64 2] 3)).alloc (.cells #[.int .i64 0, .int .i64 10, .int .i64 14, .slice (some ⟨g1, 0, none⟩) 3 3, .int .i64 3, .int .i64 7, .int .i64 7, .slice (some ⟨W3.heap.size, 0, none⟩) 1 1] 93)
  have t5 : Below w.heap.size w ((W3.alloc (.cells #[.int .i64 2] 3)).alloc (.cells #[.int .i64 0, .int .i64 10, .int .i64 14, .slice (some ⟨g1, 0, none⟩) 3 3, .int .i64 3, .int .i64 7, .int .i64 7, .slice (some ⟨W3.heap.size, 0, none⟩) 1 1] 93)) := (t3.alloc t3.size _).alloc (by have := t3.size; simp; omega) _
  refine bodyPost_ret (results_cell1 rfl rfl (load_acc CR5)) rfl ?_
  have z0 : w.heap.size ≤ g1 := by omega
  have z4 : g1 < W3.heap.size := L3.lt
  have zw := t3.size
  exact ⟨⟨g1, W3.heap.size, W3.heap.size + 1, rfl, L5, M2, D2, ⟨z0, by simp <;> omega⟩, ⟨by omega, by simp <;> omega⟩, ⟨by omega, by simp <;> omega⟩, by omega, by omega, by omega⟩, t5⟩
section
variable (a : Option Addr) (c : Nat) (w : World) (hd : DisAt w a exDs)
include hd
theorem nmShares (x : Int) (S : List Int) (n : Nat) (E : Int) (hS : sharesOut ⟨4, 3, 10, exDs⟩ 0 x = S) (hn : S.length = n) (hE : sharesErr ⟨4, 3, 10, exDs⟩ 0 x = E) : Calls Try.prog 20 #[.agg #[.int .i64 4, .int .i64 3, .int .i64 10, .slice a 2 c], .int .i64 0, .int .i64 x] w fun e w' => (∃ a c, e = .returned (.tuple #[.slice a n c, .int .i64 E]) ∧ IntsAt w' a S) ∧ Below w.heap.size w w' := by
  have h := Shares_good 4 3 10 exDs a c 0 x w hd exSmall exErr
  rw [hS, hE, hn] at h
  exact h
theorem nmReach : Calls Try.prog 42 #[.agg #[.int .i64 4, .int .i64 3, .int .i64 10, .slice a 2 c], .int .i64 0, .bool true] w fun e w' => (∃ a c, e = .returned (.tuple #[.slice a 2 c, .int .i64 0]) ∧ IntsAt w' a [10, 7]) ∧ Below w.heap.size w w' := by
  refine (Reach_in 4 3 10 exDs a c 0 w hd exSmall true exErr (by decide)).mono ?_
  rintro e w1 ⟨⟨a1, c1, h1, h2, _⟩, h3⟩
  rw [show reachL 3 10 (endX true) 0 exDs exDs.length = [10, 7] by decide +kernel] at h2
  exact ⟨⟨a1, c1, h1, h2⟩, h3⟩
theorem nmReachOut : Calls Try.prog 42 #[.agg #[.int .i64 4, .int .i64 3, .int .i64 10, .slice a 2 c], .int .i64 4, .bool true] w fun e w' => e = .returned (.tuple #[.slice none 0 0, .int .i64 2]) ∧ Below w.heap.size w w' :=
  Reach_out 4 3 10 exDs a c 4 w hd exSmall true exErr (by decide)
theorem nmWords (s p : Int) (E : Int) (hE : wordsErr 3 10 exDs[0] s p = E) : Calls Try.prog 29 #[.agg #[.int .i64 4, .int .i64 3, .int .i64 10, .slice a 2 c], .agg #[.int .i64 0, .int .i64 s, .int .i64 p]] w fun e w' => (∃ a n c, e = .returned (.tuple #[.slice a n c, .int .i64 E])) ∧ Below w.heap.size w w' := by
  refine (Words_in 4 3 10 exDs a c 0 s p w hd exSmall exErr (by decide)).mono ?_
  rintro e w1 ⟨⟨a1, c1, h1, h2⟩, h3⟩
  rw [hE] at h1
  exact ⟨⟨a1, _, c1, h1⟩, h3⟩
theorem nmWordsOut : Calls Try.prog 29 #[.agg #[.int .i64 4, .int .i64 3, .int .i64 10, .slice a 2 c], .agg #[.int .i64 2, .int .i64 2, .int .i64 14]] w fun e w' => e = .returned (.tuple #[.slice none 0 0, .int .i64 2]) ∧ Below w.heap.size w w' :=
  Words_out 4 3 10 exDs a c 2 2 14 w hd exSmall exErr (by decide)
theorem nmBalance (b : Option Addr) (d : Nat) (ht : IntsAt w b [10]) : Calls Try.prog 21 #[.agg #[.int .i64 4, .int .i64 3, .int .i64 10, .slice a 2 c], .slice b 1 d] w fun e w' => (∃ a c, e = .returned (.tuple #[.slice a 0 c, .int .i64 2])) ∧ Below w.heap.size w w' := by
  have h := Balance_good 4 3 10 exDs a c b [10] d w hd exSmall ht (by decide) exErr
  rw [show balOut ⟨4, 3, 10, exDs⟩ [10] = [] by decide +kernel, show balErr ⟨4, 3, 10, exDs⟩ [10] = 2 by decide +kernel] at h
  exact h.mono fun e w1 ⟨⟨a1, c1, h1, _⟩, h3⟩ => ⟨⟨a1, c1, h1⟩, h3⟩
end
theorem nmGroups (b : Option Addr) (c : Nat) (w : World) (hx : IntsAt w b [-5, 2, 3, 0]) : Calls Try.prog 45 #[.slice b 4 c] w fun e w' => (∃ a c, e = .returned (.tuple #[.slice a 1 c, .int .i64 0]) ∧ ListsAt w' a [[0, 1, 2]]) ∧ Below w.heap.size w w' := by
  have h := Groups_good b [-5, 2, 3, 0] c w hx (by decide +kernel)
  rw [show groupsL [-5, 2, 3, 0] = [[0, 1, 2]] by decide +kernel] at h
  exact h
theorem nmGroupsBad (b : Option Addr) (c : Nat) (w : World) (hx : IntsAt w b [0, 0, 0, 0, 0, 0, 0, 0]) : Calls Try.prog 45 #[.slice b 8 c] w fun e w' => e = .returned (.tuple #[.slice none 0 0, .int .i64 3]) ∧ Below w.heap.size w w' :=
  Groups_bad b [0, 0, 0, 0, 0, 0, 0, 0] c w hx (by decide) 3 (by decide +kernel) (by decide)
theorem nmSettle (b : Option Addr) (c : Nat) (w : World) (hx : IntsAt w b [0, 0]) : Calls Try.prog 31 #[.slice b 2 c] w fun e w' => (∃ a c, e = .returned (.tuple #[.slice a 0 c, .int .i64 0])) ∧ Below w.heap.size w w' := by
  have h := Settle_good b [0, 0] c (fun e => by obtain ⟨_, _, h, _⟩ := hx 0 (by decide); rw [e] at h; cases h) w hx (by decide +kernel)
  rw [show settleL [0, 0] = [] by decide +kernel] at h
  exact h.mono fun e w1 ⟨⟨a1, c1, h1, _⟩, h3⟩ => ⟨⟨a1, c1, h1⟩, h3⟩
theorem nmSettleBad (b : Option Addr) (c : Nat) (w : World) (hx : IntsAt w b [1, 2]) : Calls Try.prog 31 #[.slice b 2 c] w fun e w' => e = .returned (.tuple #[.slice none 0 0, .int .i64 1]) ∧ Below w.heap.size w w' :=
  Settle_bad b [1, 2] c w hx (by decide) 1 (by decide +kernel) (by decide)
theorem nmSettleNil (w : World) : Calls Try.prog 31 #[.slice none 0 0] w fun e w' => e = .returned (.tuple #[.slice none 0 0, .int .i64 1]) ∧ Below w.heap.size w w' :=
  Settle_bad none [] 0 w (IntsAt.nil _ _) (by decide) 1 (by decide +kernel) (by decide)
section
variable (b : Option Addr) (c : Nat) (w : World) (hx : IntsAt w b exL)
include hx
theorem nmProve (m : Int) (B : Bool) (hB : proveF exL [(0, 2, 30), (3, 1, 12)] m = B) (ap : Option Addr) (cp : Nat) (hp : Recs3At w ap [(0, 2, 30), (3, 1, 12)]) : Calls Try.prog 32 #[.slice b 4 c, .slice ap 2 cp, .int .i64 m] w fun e w' => e = .returned (.bool B) ∧ Below w.heap.size w w' := by
  have h := ProveSettled_any b exL c (fun e => by obtain ⟨_, _, h, _⟩ := hx 0 (by decide); rw [e] at h; cases h) ap [(0, 2, 30), (3, 1, 12)] cp m w hx (by decide) hp (by decide)
  rw [hB] at h
  exact h
theorem nmProveG (gs : List (List Int)) (n : Nat) (hn : gs.length = n) (hg5 : ∀ g ∈ gs, g.length ≤ 1000) (hn5 : n ≤ 1000) (m : Int) (B : Bool) (hB : proveG exL gs m = B) (ag : Option Addr) (cg : Nat) (hg : ListsAt w ag gs) : Calls Try.prog 46 #[.slice b 4 c, .slice ag n cg, .int .i64 m] w fun e w' => e = .returned (.bool B) ∧ Below w.heap.size w w' := by
  subst hn
  have h := ProveGroups_any b exL c ag gs cg m w hx (by decide) hg hn5 hg5
  rw [hB] at h
  exact h
end
end Go.Proofs.Ytomjlmhnjgohdaa
