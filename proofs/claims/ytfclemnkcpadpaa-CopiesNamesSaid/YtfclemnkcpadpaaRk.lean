/- copies: two -/
import Derived.Test.YtfclemnkcpadpaaRj
import Derived.Test.YtfclemnkcpadpaaPb
namespace Go.Proofs.Ytfclemnkcpadpaa
set_option linter.unusedVariables false
set_option linter.unusedSimpArgs false
set_option linter.unnecessarySimpa false
open Go.RowKit Go.Flow

/-- The chapter's post, cell by cell: its blocks. -/
structure TwoAt (w : World) (s r l1 l2 g : Nat) : Prop where
  cs : Cells w s #[.int .i64 0, .int .i64 2] 3
  cr : Cells w r #[.slice (some ⟨l1, 0, none⟩) 1 1, .bool true, .slice (some ⟨l2, 0, none⟩) 2 2, .bool false] 108
  c1 : Cells w l1 #[.int .i64 1, .int .i64 3, .slice none 0 0] 105
  c2 : Cells w l2 #[.int .i64 1, .int .i64 1, .slice (some ⟨g, 0, none⟩) 1 1, .int .i64 1, .int .i64 2, .slice none 0 0] 105
  cg : Cells w g #[.int .i64 1, .int .i64 4] 68
theorem TwoAt.below {w w' : World} {s r l1 l2 g : Nat} (h : TwoAt w s r l1 l2 g) (hb : Below w.heap.size w w') : TwoAt w' s r l1 l2 g := ⟨h.cs.below hb, h.cr.below hb, h.c1.below hb, h.c2.below hb, h.cg.below hb⟩
theorem cell_of {w : World} {g k : Nat} {cs : Array Value} {T : TypeId} {v : Value} (h : Cells w g cs T) (hk : cs[k]? = some v) : w.cell? ⟨g, 0 + k, none⟩ = some v := by rw [Nat.zero_add, h.cell]; exact hk
theorem TwoAt.sends {w : World} {s r l1 l2 g : Nat} (h : TwoAt w s r l1 l2 g) : IntsAt w (some ⟨s, 0, none⟩) [0, 2] := h.cs.ints _ rfl
theorem TwoAt.legs1 {w : World} {s r l1 l2 g : Nat} (h : TwoAt w s r l1 l2 g) : LegsAt w (some ⟨l1, 0, none⟩) [⟨1, 3, []⟩] := fun k hk => by
  obtain rfl : k = 0 := by simp at hk; omega
  exact ⟨l1, 0, none, 0, rfl, h.c1.lt, cell_of h.c1 rfl, cell_of (k := 1) h.c1 rfl, cell_of (k := 2) h.c1 rfl, Recs2At.nil _ _⟩
theorem TwoAt.legs2 {w : World} {s r l1 l2 g : Nat} (h : TwoAt w s r l1 l2 g) : LegsAt w (some ⟨l2, 0, none⟩) [⟨1, 1, [(1, 4)]⟩, ⟨1, 2, []⟩] := fun k hk => by
  have hk2 : k = 0 ∨ k = 1 := by simp at hk; omega
  rcases hk2 with rfl | rfl
  · refine ⟨l2, 0, some ⟨g, 0, none⟩, 1, rfl, h.c2.lt, cell_of h.c2 rfl, cell_of (k := 1) h.c2 rfl, cell_of (k := 2) h.c2 rfl, fun j hj => ?_⟩
    obtain rfl : j = 0 := by simp at hj; omega
    exact ⟨g, 0, rfl, h.cg.lt, cell_of h.cg rfl, cell_of (k := 1) h.cg rfl⟩
  · exact ⟨l2, 0, none, 0, rfl, h.c2.lt, cell_of (k := 3) h.c2 rfl, cell_of (k := 4) h.c2 rfl, cell_of (k := 5) h.c2 rfl, Recs2At.nil _ _⟩
theorem TwoAt.routes {w : World} {s r l1 l2 g : Nat} (h : TwoAt w s r l1 l2 g) : RoutesAt w (some ⟨r, 0, none⟩) twoP.routes := fun k hk => by
  have hk2 : k = 0 ∨ k = 1 := by have : k < 2 := hk; omega
  rcases hk2 with rfl | rfl
  · exact ⟨r, 0, some ⟨l1, 0, none⟩, 1, rfl, h.cr.lt, cell_of h.cr rfl, cell_of (k := 1) h.cr rfl, h.legs1⟩
  · exact ⟨r, 0, some ⟨l2, 0, none⟩, 2, rfl, h.cr.lt, cell_of (k := 2) h.cr rfl, cell_of (k := 3) h.cr rfl, h.legs2⟩
def RetTwoC (B : Nat) (e : Ending) (w' : World) : Prop := ∃ s r l1 l2 g, e = .returned (.agg #[.slice (some ⟨s, 0, none⟩) 2 2, .slice (some ⟨r, 0, none⟩) 2 2, .int .i64 5]) ∧ TwoAt w' s r l1 l2 g ∧ B ≤ s ∧ B ≤ r ∧ B ≤ l1 ∧ B ≤ l2 ∧ B ≤ g ∧ [s, r, l1, l2, g].Nodup
def RetTwo (e : Ending) (w' : World) : Prop := ∃ a c ar cr, e = .returned (.agg #[.slice a 2 c, .slice ar 2 cr, .int .i64 5]) ∧ IntsAt w' a twoP.sends ∧ RoutesAt w' ar twoP.routes
set_option maxRecDepth 100000 in
set_option maxHeartbeats 4000000 in
theorem twoC_any (w : World) : Calls Try.prog 55 #[] w fun e w' => RetTwoC w.heap.size e w' ∧ Below w.heap.size w w' := by
  go_enter Try.func55, Try.ntmps55
  go_wp2_with fail
  obtain ⟨WA, hWA⟩ : ∃ z : World, z = (w.alloc (.cells #[.slice none 0 0, .slice none 0 0, .int .i64 0] 34)).alloc (.cells #[.int .i64 0, .int .i64 2] 3) := ⟨_, rfl⟩
  have tA : Below w.heap.size w WA := by rw [hWA]; exact ((Below.refl _ _).alloc (Nat.le_refl _) _).alloc (by simp) _
  have RA : Cells WA w.heap.size #[.slice none 0 0, .slice none 0 0, .int .i64 0] 34 := by rw [hWA]; exact (Cells.new _ _ _).alloc _
  have SA : Cells WA (w.heap.size + 1) #[.int .i64 0, .int .i64 2] 3 := by rw [hWA]; exact Cells.new' _ _ _ _ (by simp)
  rw [← hWA]
  clear hWA
  go_at_call 47
  refine (between_any _ _ _).mono ?_
  rintro e w1 ⟨rfl, hb1⟩
  have t1 := tA.trans (hb1.mono tA.size)
  have R1 := RA.below hb1
  have S1 := SA.below hb1
  go_wp2_with fail
  obtain ⟨WB, hWB⟩ : ∃ z : World, z = w1.alloc (.cells #[.int .i64 1, .int .i64 3, .slice none 0 0] 105) := ⟨_, rfl⟩
  have bB : Below w1.heap.size w1 WB := by rw [hWB]; exact (Below.refl _ _).alloc (Nat.le_refl _) _
  have LB : Cells WB w1.heap.size #[.int .i64 1, .int .i64 3, .slice none 0 0] 105 := by rw [hWB]; exact Cells.new _ _ _
  rw [← hWB]
  clear hWB
  go_at_call 47
  refine (between_any _ _ _).mono ?_
  rintro e w2 ⟨rfl, hb2⟩
  go_wp2_with fail
  go_at_call 47
  refine (between_any _ _ _).mono ?_
  rintro e w3 ⟨rfl, hb3⟩
  have b3 : Below w1.heap.size w1 w3 := bB.trans ((hb2.trans (hb3.mono hb2.size)).mono bB.size)
  have t3 := t1.trans (b3.mono t1.size)
  have R3 := R1.below b3
  have S3 := S1.below b3
  have L3 := (LB.below hb2).below hb3
  go_wp2_with fail
  obtain ⟨WC, hWC⟩ : ∃ z : World, z = w3.alloc (.cells #[.int .i64 1, .int .i64 4] 68) := ⟨_, rfl⟩
  have bC : Below w3.heap.size w3 WC := by rw [hWC]; exact (Below.refl _ _).alloc (Nat.le_refl _) _
  have GC : Cells WC w3.heap.size #[.int .i64 1, .int .i64 4] 68 := by rw [hWC]; exact Cells.new _ _ _
  rw [← hWC]
  clear hWC
  go_at_call 47
  refine (between_any _ _ _).mono ?_
  rintro e w4 ⟨rfl, hb4⟩
  have b4 := bC.trans (hb4.mono bC.size)
  have t4 := t3.trans (b4.mono t3.size)
  have R4 := R3.below b4
  have S4 := S3.below b4
  have L4 := L3.below b4
  have G4 := GC.below hb4
  have r0 := R4.cell 0
  have r1 := R4.cell 1
  have r2 := R4.cell 2
  have s0 := R4.frozen 0
  have s1 := R4.frozen 1
  have s2 := R4.frozen 2
  have lR := R4.lt
  simp at r0 r1 r2
  go_wp2
  have CF := ((R4.set 0 (.slice (some ⟨w.heap.size + 1, 0, none⟩) 2 2)).set 1 (.slice (some ⟨w4.heap.size + 1, 0, none⟩) 2 2)).set 2 (.int .i64 5)
  obtain ⟨WD, hWD⟩ : ∃ z : World, z = ((w4.setCell ⟨w.heap.size, 0, none⟩ (.slice (some ⟨w.heap.size + 1, 0, none⟩) 2 2)).setCell ⟨w.heap.size, 1, none⟩ (.slice (some ⟨w4.heap.size + 1, 0, none⟩) 2 2)).setCell ⟨w.heap.size, 2, none⟩ (.int .i64 5) := ⟨_, rfl⟩
  rw [← hWD] at CF ⊢
  have zD : WD.heap.size = w4.heap.size := by rw [hWD]; simp
  have hn : w.heap.size + 1 ≠ w.heap.size := by omega
  have SD : Cells WD (w.heap.size + 1) #[.int .i64 0, .int .i64 2] 3 := by rw [hWD]; exact ((S4.other hn 0 _).other hn 1 _).other hn 2 _
  have z1 := t1.size
  have zA := tA.size
  have lSA := SA.lt
  have lz1 := hb1.size
  have hn1 : w1.heap.size ≠ w.heap.size := by omega
  have LD : Cells WD w1.heap.size #[.int .i64 1, .int .i64 3, .slice none 0 0] 105 := by rw [hWD]; exact ((L4.other hn1 0 _).other hn1 1 _).other hn1 2 _
  have z3 := b3.size
  have hn3 : w3.heap.size ≠ w.heap.size := by omega
  have GD : Cells WD w3.heap.size #[.int .i64 1, .int .i64 4] 68 := by rw [hWD]; exact ((G4.other hn3 0 _).other hn3 1 _).other hn3 2 _
  have tD : Below w.heap.size w WD := by rw [hWD]; exact ((t4.setCell (p := ⟨w.heap.size, 0, none⟩) (Nat.le_refl _) _).setCell (p := ⟨w.heap.size, 1, none⟩) (Nat.le_refl _) _).setCell (p := ⟨w.heap.size, 2, none⟩) (Nat.le_refl _) _
  clear hWD
  obtain ⟨WE, hWE⟩ : ∃ z : World, z = (WD.alloc (.cells #[.int .i64 1, .int .i64 1, .slice (some ⟨w3.heap.size, 0, none⟩) 1 1, .int .i64 1, .int .i64 2, .slice none 0 0] 105)).alloc (.cells #[.slice (some ⟨w1.heap.size, 0, none⟩) 1 1, .bool true, .slice (some ⟨w4.heap.size, 0, none⟩) 2 2, .bool false] 108) := ⟨_, rfl⟩
  have L2E : Cells WE w4.heap.size #[.int .i64 1, .int .i64 1, .slice (some ⟨w3.heap.size, 0, none⟩) 1 1, .int .i64 1, .int .i64 2, .slice none 0 0] 105 := by rw [hWE]; exact (Cells.new' _ _ _ _ zD.symm).alloc _
  have RE : Cells WE (w4.heap.size + 1) #[.slice (some ⟨w1.heap.size, 0, none⟩) 1 1, .bool true, .slice (some ⟨w4.heap.size, 0, none⟩) 2 2, .bool false] 108 := by rw [hWE]; exact Cells.new' _ _ _ _ (by simp; omega)
  have bE : Below WD.heap.size WD WE := by rw [hWE]; exact ((Below.refl _ _).alloc (Nat.le_refl _) _).alloc (by simp) _
  rw [← hWE]
  clear hWE
  have lL3 := LB.lt
  have lb2 := hb2.size
  have lb3 := hb3.size
  have lGC := GC.lt
  have lb4 := hb4.size
  refine bodyPost_ret (results_cell1 rfl rfl (load_post (CF.below bE))) rfl ?_
  refine ⟨⟨w.heap.size + 1, w4.heap.size + 1, w1.heap.size, w4.heap.size, w3.heap.size, rfl, ⟨SD.below bE, RE, LD.below bE, L2E, GD.below bE⟩, by omega, by omega, by omega, by omega, by omega, ?_⟩, tD.trans (bE.mono tD.size)⟩
  simp only [List.nodup_cons, List.mem_cons, List.not_mem_nil, or_false, not_or, List.nodup_nil, and_true, not_false_eq_true]
  omega
theorem two_any (w : World) : Calls Try.prog 55 #[] w fun e w' => RetTwo e w' ∧ Below w.heap.size w w' :=
  (twoC_any w).mono fun _ _ ⟨⟨s, r, l1, l2, g, he, ht, _⟩, hb⟩ => ⟨⟨_, _, _, _, he, ht.sends, ht.routes⟩, hb⟩
end Go.Proofs.Ytfclemnkcpadpaa
