/- pay: the work of an account, and its shares -/
import Derived.Test.YtaphfibfjepceaaAe
import Derived.Test.YtaphfibfjepceaaAg
import Derived.Deep.RegionHeld3
import Derived.Deep.Cut
namespace Go.Proofs.Ytaphfibfjepceaa
set_option linter.unusedVariables false
set_option linter.unusedSimpArgs false
set_option linter.unnecessarySimpa false
open Go.RowKit Go.Flow Go.Shelf

theorem act_elim (motive : Act → Prop) {A : Act} (h : A.tmps.size = 84) (hm : ∀ (ds : List Deferred) (x0 x1 x2 x3 x4 x5 x6 x7 x8 x9 x10 x11 x12 x13 x14 x15 x16 x17 x18 x19 x20 x21 x22 x23 x24 x25 x26 x27 x28 x29 x30 x31 x32 x33 x34 x35 x36 x37 x38 x39 x40 x41 x42 x43 x44 x45 x46 x47 x48 x49 x50 x51 x52 x53 x54 x55 x56 x57 x58 x59 x60 x61 x62 x63 x64 x65 x66 x67 x68 x69 x70 x71 x72 x73 x74 x75 x76 x77 x78 x79 x80 x81 x82 x83 : Value), motive { tmps := #[x0, x1, x2, x3, x4, x5, x6, x7, x8, x9, x10, x11, x12, x13, x14, x15, x16, x17, x18, x19, x20, x21, x22, x23, x24, x25, x26, x27, x28, x29, x30, x31, x32, x33, x34, x35, x36, x37, x38, x39, x40, x41, x42, x43, x44, x45, x46, x47, x48, x49, x50, x51, x52, x53, x54, x55, x56, x57, x58, x59, x60, x61, x62, x63, x64, x65, x66, x67, x68, x69, x70, x71, x72, x73, x74, x75, x76, x77, x78, x79, x80, x81, x82, x83], defers := ds }) : motive A := by
  obtain ⟨⟨l⟩, ds⟩ := A
  replace h : l.length = 84 := h
  obtain ⟨x0, l, rfl⟩ := List.exists_cons_of_length_eq_add_one h
  replace h : l.length = 83 := by simpa using h
  obtain ⟨x1, l, rfl⟩ := List.exists_cons_of_length_eq_add_one h
  replace h : l.length = 82 := by simpa using h
  obtain ⟨x2, l, rfl⟩ := List.exists_cons_of_length_eq_add_one h
  replace h : l.length = 81 := by simpa using h
  obtain ⟨x3, l, rfl⟩ := List.exists_cons_of_length_eq_add_one h
  replace h : l.length = 80 := by simpa using h
  obtain ⟨x4, l, rfl⟩ := List.exists_cons_of_length_eq_add_one h
  replace h : l.length = 79 := by simpa using h
  obtain ⟨x5, l, rfl⟩ := List.exists_cons_of_length_eq_add_one h
  replace h : l.length = 78 := by simpa using h
  obtain ⟨x6, l, rfl⟩ := List.exists_cons_of_length_eq_add_one h
  replace h : l.length = 77 := by simpa using h
  obtain ⟨x7, l, rfl⟩ := List.exists_cons_of_length_eq_add_one h
  replace h : l.length = 76 := by simpa using h
  obtain ⟨x8, l, rfl⟩ := List.exists_cons_of_length_eq_add_one h
  replace h : l.length = 75 := by simpa using h
  obtain ⟨x9, l, rfl⟩ := List.exists_cons_of_length_eq_add_one h
  replace h : l.length = 74 := by simpa using h
  obtain ⟨x10, l, rfl⟩ := List.exists_cons_of_length_eq_add_one h
  replace h : l.length = 73 := by simpa using h
  obtain ⟨x11, l, rfl⟩ := List.exists_cons_of_length_eq_add_one h
  replace h : l.length = 72 := by simpa using h
  obtain ⟨x12, l, rfl⟩ := List.exists_cons_of_length_eq_add_one h
  replace h : l.length = 71 := by simpa using h
  obtain ⟨x13, l, rfl⟩ := List.exists_cons_of_length_eq_add_one h
  replace h : l.length = 70 := by simpa using h
  obtain ⟨x14, l, rfl⟩ := List.exists_cons_of_length_eq_add_one h
  replace h : l.length = 69 := by simpa using h
  obtain ⟨x15, l, rfl⟩ := List.exists_cons_of_length_eq_add_one h
  replace h : l.length = 68 := by simpa using h
  obtain ⟨x16, l, rfl⟩ := List.exists_cons_of_length_eq_add_one h
  replace h : l.length = 67 := by simpa using h
  obtain ⟨x17, l, rfl⟩ := List.exists_cons_of_length_eq_add_one h
  replace h : l.length = 66 := by simpa using h
  obtain ⟨x18, l, rfl⟩ := List.exists_cons_of_length_eq_add_one h
  replace h : l.length = 65 := by simpa using h
  obtain ⟨x19, l, rfl⟩ := List.exists_cons_of_length_eq_add_one h
  replace h : l.length = 64 := by simpa using h
  obtain ⟨x20, l, rfl⟩ := List.exists_cons_of_length_eq_add_one h
  replace h : l.length = 63 := by simpa using h
  obtain ⟨x21, l, rfl⟩ := List.exists_cons_of_length_eq_add_one h
  replace h : l.length = 62 := by simpa using h
  obtain ⟨x22, l, rfl⟩ := List.exists_cons_of_length_eq_add_one h
  replace h : l.length = 61 := by simpa using h
  obtain ⟨x23, l, rfl⟩ := List.exists_cons_of_length_eq_add_one h
  replace h : l.length = 60 := by simpa using h
  obtain ⟨x24, l, rfl⟩ := List.exists_cons_of_length_eq_add_one h
  replace h : l.length = 59 := by simpa using h
  obtain ⟨x25, l, rfl⟩ := List.exists_cons_of_length_eq_add_one h
  replace h : l.length = 58 := by simpa using h
  obtain ⟨x26, l, rfl⟩ := List.exists_cons_of_length_eq_add_one h
  replace h : l.length = 57 := by simpa using h
  obtain ⟨x27, l, rfl⟩ := List.exists_cons_of_length_eq_add_one h
  replace h : l.length = 56 := by simpa using h
  obtain ⟨x28, l, rfl⟩ := List.exists_cons_of_length_eq_add_one h
  replace h : l.length = 55 := by simpa using h
  obtain ⟨x29, l, rfl⟩ := List.exists_cons_of_length_eq_add_one h
  replace h : l.length = 54 := by simpa using h
  obtain ⟨x30, l, rfl⟩ := List.exists_cons_of_length_eq_add_one h
  replace h : l.length = 53 := by simpa using h
  obtain ⟨x31, l, rfl⟩ := List.exists_cons_of_length_eq_add_one h
  replace h : l.length = 52 := by simpa using h
  obtain ⟨x32, l, rfl⟩ := List.exists_cons_of_length_eq_add_one h
  replace h : l.length = 51 := by simpa using h
  obtain ⟨x33, l, rfl⟩ := List.exists_cons_of_length_eq_add_one h
  replace h : l.length = 50 := by simpa using h
  obtain ⟨x34, l, rfl⟩ := List.exists_cons_of_length_eq_add_one h
  replace h : l.length = 49 := by simpa using h
  obtain ⟨x35, l, rfl⟩ := List.exists_cons_of_length_eq_add_one h
  replace h : l.length = 48 := by simpa using h
  obtain ⟨x36, l, rfl⟩ := List.exists_cons_of_length_eq_add_one h
  replace h : l.length = 47 := by simpa using h
  obtain ⟨x37, l, rfl⟩ := List.exists_cons_of_length_eq_add_one h
  replace h : l.length = 46 := by simpa using h
  obtain ⟨x38, l, rfl⟩ := List.exists_cons_of_length_eq_add_one h
  replace h : l.length = 45 := by simpa using h
  obtain ⟨x39, l, rfl⟩ := List.exists_cons_of_length_eq_add_one h
  replace h : l.length = 44 := by simpa using h
  obtain ⟨x40, l, rfl⟩ := List.exists_cons_of_length_eq_add_one h
  replace h : l.length = 43 := by simpa using h
  obtain ⟨x41, l, rfl⟩ := List.exists_cons_of_length_eq_add_one h
  replace h : l.length = 42 := by simpa using h
  obtain ⟨x42, l, rfl⟩ := List.exists_cons_of_length_eq_add_one h
  replace h : l.length = 41 := by simpa using h
  obtain ⟨x43, l, rfl⟩ := List.exists_cons_of_length_eq_add_one h
  replace h : l.length = 40 := by simpa using h
  obtain ⟨x44, l, rfl⟩ := List.exists_cons_of_length_eq_add_one h
  replace h : l.length = 39 := by simpa using h
  obtain ⟨x45, l, rfl⟩ := List.exists_cons_of_length_eq_add_one h
  replace h : l.length = 38 := by simpa using h
  obtain ⟨x46, l, rfl⟩ := List.exists_cons_of_length_eq_add_one h
  replace h : l.length = 37 := by simpa using h
  obtain ⟨x47, l, rfl⟩ := List.exists_cons_of_length_eq_add_one h
  replace h : l.length = 36 := by simpa using h
  obtain ⟨x48, l, rfl⟩ := List.exists_cons_of_length_eq_add_one h
  replace h : l.length = 35 := by simpa using h
  obtain ⟨x49, l, rfl⟩ := List.exists_cons_of_length_eq_add_one h
  replace h : l.length = 34 := by simpa using h
  obtain ⟨x50, l, rfl⟩ := List.exists_cons_of_length_eq_add_one h
  replace h : l.length = 33 := by simpa using h
  obtain ⟨x51, l, rfl⟩ := List.exists_cons_of_length_eq_add_one h
  replace h : l.length = 32 := by simpa using h
  obtain ⟨x52, l, rfl⟩ := List.exists_cons_of_length_eq_add_one h
  replace h : l.length = 31 := by simpa using h
  obtain ⟨x53, l, rfl⟩ := List.exists_cons_of_length_eq_add_one h
  replace h : l.length = 30 := by simpa using h
  obtain ⟨x54, l, rfl⟩ := List.exists_cons_of_length_eq_add_one h
  replace h : l.length = 29 := by simpa using h
  obtain ⟨x55, l, rfl⟩ := List.exists_cons_of_length_eq_add_one h
  replace h : l.length = 28 := by simpa using h
  obtain ⟨x56, l, rfl⟩ := List.exists_cons_of_length_eq_add_one h
  replace h : l.length = 27 := by simpa using h
  obtain ⟨x57, l, rfl⟩ := List.exists_cons_of_length_eq_add_one h
  replace h : l.length = 26 := by simpa using h
  obtain ⟨x58, l, rfl⟩ := List.exists_cons_of_length_eq_add_one h
  replace h : l.length = 25 := by simpa using h
  obtain ⟨x59, l, rfl⟩ := List.exists_cons_of_length_eq_add_one h
  replace h : l.length = 24 := by simpa using h
  obtain ⟨x60, l, rfl⟩ := List.exists_cons_of_length_eq_add_one h
  replace h : l.length = 23 := by simpa using h
  obtain ⟨x61, l, rfl⟩ := List.exists_cons_of_length_eq_add_one h
  replace h : l.length = 22 := by simpa using h
  obtain ⟨x62, l, rfl⟩ := List.exists_cons_of_length_eq_add_one h
  replace h : l.length = 21 := by simpa using h
  obtain ⟨x63, l, rfl⟩ := List.exists_cons_of_length_eq_add_one h
  replace h : l.length = 20 := by simpa using h
  obtain ⟨x64, l, rfl⟩ := List.exists_cons_of_length_eq_add_one h
  replace h : l.length = 19 := by simpa using h
  obtain ⟨x65, l, rfl⟩ := List.exists_cons_of_length_eq_add_one h
  replace h : l.length = 18 := by simpa using h
  obtain ⟨x66, l, rfl⟩ := List.exists_cons_of_length_eq_add_one h
  replace h : l.length = 17 := by simpa using h
  obtain ⟨x67, l, rfl⟩ := List.exists_cons_of_length_eq_add_one h
  replace h : l.length = 16 := by simpa using h
  obtain ⟨x68, l, rfl⟩ := List.exists_cons_of_length_eq_add_one h
  replace h : l.length = 15 := by simpa using h
  obtain ⟨x69, l, rfl⟩ := List.exists_cons_of_length_eq_add_one h
  replace h : l.length = 14 := by simpa using h
  obtain ⟨x70, l, rfl⟩ := List.exists_cons_of_length_eq_add_one h
  replace h : l.length = 13 := by simpa using h
  obtain ⟨x71, l, rfl⟩ := List.exists_cons_of_length_eq_add_one h
  replace h : l.length = 12 := by simpa using h
  obtain ⟨x72, l, rfl⟩ := List.exists_cons_of_length_eq_add_one h
  replace h : l.length = 11 := by simpa using h
  obtain ⟨x73, l, rfl⟩ := List.exists_cons_of_length_eq_add_one h
  replace h : l.length = 10 := by simpa using h
  obtain ⟨x74, l, rfl⟩ := List.exists_cons_of_length_eq_add_one h
  replace h : l.length = 9 := by simpa using h
  obtain ⟨x75, l, rfl⟩ := List.exists_cons_of_length_eq_add_one h
  replace h : l.length = 8 := by simpa using h
  obtain ⟨x76, l, rfl⟩ := List.exists_cons_of_length_eq_add_one h
  replace h : l.length = 7 := by simpa using h
  obtain ⟨x77, l, rfl⟩ := List.exists_cons_of_length_eq_add_one h
  replace h : l.length = 6 := by simpa using h
  obtain ⟨x78, l, rfl⟩ := List.exists_cons_of_length_eq_add_one h
  replace h : l.length = 5 := by simpa using h
  obtain ⟨x79, l, rfl⟩ := List.exists_cons_of_length_eq_add_one h
  replace h : l.length = 4 := by simpa using h
  obtain ⟨x80, l, rfl⟩ := List.exists_cons_of_length_eq_add_one h
  replace h : l.length = 3 := by simpa using h
  obtain ⟨x81, l, rfl⟩ := List.exists_cons_of_length_eq_add_one h
  replace h : l.length = 2 := by simpa using h
  obtain ⟨x82, l, rfl⟩ := List.exists_cons_of_length_eq_add_one h
  replace h : l.length = 1 := by simpa using h
  obtain ⟨x83, l, rfl⟩ := List.exists_cons_of_length_eq_add_one h
  replace h : l.length = 0 := by simpa using h
  obtain rfl := List.eq_nil_of_length_eq_zero h
  exact hm ds x0 x1 x2 x3 x4 x5 x6 x7 x8 x9 x10 x11 x12 x13 x14 x15 x16 x17 x18 x19 x20 x21 x22 x23 x24 x25 x26 x27 x28 x29 x30 x31 x32 x33 x34 x35 x36 x37 x38 x39 x40 x41 x42 x43 x44 x45 x46 x47 x48 x49 x50 x51 x52 x53 x54 x55 x56 x57 x58 x59 x60 x61 x62 x63 x64 x65 x66 x67 x68 x69 x70 x71 x72 x73 x74 x75 x76 x77 x78 x79 x80 x81 x82 x83

/-- A work: its account, its map. -/
structure WkAt (w : World) (B bm : Nat) (st rate keeps : Int) (ad : Option Addr) (nd cd : Nat) : Prop where
  c0 : w.cell? ⟨B, 0, none⟩ = some (.int .i64 st)
  c1 : w.cell? ⟨B, 1, none⟩ = some (.int .i64 rate)
  c2 : w.cell? ⟨B, 2, none⟩ = some (.int .i64 keeps)
  c3 : w.cell? ⟨B, 3, none⟩ = some (.slice ad nd cd)
  c4 : w.cell? ⟨B, 4, none⟩ = some (.map (some bm))
section
variable {w w' : World} {B bm : Nat} {st rate keeps : Int} {ad : Option Addr} {nd cd : Nat}
theorem WkAt.below (h : WkAt w B bm st rate keeps ad nd cd) (hb : Below w.heap.size w w') : WkAt w' B bm st rate keeps ad nd cd := ⟨below_cell hb h.c0, below_cell hb h.c1, below_cell hb h.c2, below_cell hb h.c3, below_cell hb h.c4⟩
theorem WkAt.keep {b : Nat} (h : WkAt w B bm st rate keeps ad nd cd) (k : Keep b w w') : WkAt w' B bm st rate keeps ad nd cd := ⟨k.cell h.c0, k.cell h.c1, k.cell h.c2, k.cell h.c3, k.cell h.c4⟩
theorem WkAt.lt (h : WkAt w B bm st rate keeps ad nd cd) : B < w.heap.size := cell_ltK h.c0
end
/-- The shares when the pence of pre are given: pence i goes to the station k - 1 - i. -/
def shR (base kp : Int) (k : Nat) (pre : List Nat) : List Int := (List.range k).map fun (i : Nat) => base + (if i = 0 then kp else 0) + ((pre.count (k - 1 - i) : Nat) : Int)
def shA (base kp : Int) (k : Nat) (pre : List Nat) : Array Value := ((shR base kp k pre).map (Value.int .i64)).toArray
theorem shA_zero (base kp : Int) {k : Nat} (hk : 1 ≤ k) : (List.replicate k (Value.int .i64 base)).toArray.setIfInBounds 0 (.int .i64 (base + kp)) = shA base kp k [] := by
  apply Array.ext
  · simp [shA, shR]
  · intro i h1 h2
    simp only [shA, shR, List.setIfInBounds_toArray, List.getElem_toArray, List.getElem_set, List.getElem_map, List.getElem_range, List.getElem_replicate, List.count_nil]
    by_cases h : i = 0
    · subst h; simp
    · rw [if_neg (fun e => h e.symm), if_neg h]; simp
theorem shA_get (base kp : Int) {k : Nat} (pre : List Nat) {x : Nat} (hx : x < k) : (shA base kp k pre)[k - 1 - x]? = some (.int .i64 (base + (if k - 1 - x = 0 then kp else 0) + (pre.count x : Nat))) := by
  have h : k - 1 - x < k := by omega
  simp only [shA, shR, List.getElem?_toArray, List.getElem?_map, List.getElem?_range h, Option.map_some]
  rw [show k - 1 - (k - 1 - x) = x by omega]
theorem shA_step (base kp : Int) {k : Nat} (pre : List Nat) {x : Nat} (hx : x < k) : (shA base kp k pre).setIfInBounds (k - 1 - x) (.int .i64 (base + (if k - 1 - x = 0 then kp else 0) + (pre.count x : Nat) + 1)) = shA base kp k (pre ++ [x]) := by
  apply Array.ext
  · simp [shA, shR]
  · intro i h1 h2
    have hi : i < k := by simpa [shA, shR] using h2
    simp only [shA, shR, List.setIfInBounds_toArray, List.getElem_toArray, List.getElem_set, List.getElem_map, List.getElem_range, List.count_append, List.count_singleton]
    by_cases h : k - 1 - x = i
    · rw [if_pos h, ← h, show k - 1 - (k - 1 - x) = x by omega]
      simp; omega
    · rw [if_neg h]
      have hne : ¬ (x = k - 1 - i) := by omega
      simp [hne]
theorem count_range (r j : Nat) : (List.range r).count j = if j < r then 1 else 0 := by
  induction r with
  | zero => simp
  | succ r ih =>
    rw [List.range_succ, List.count_append, ih, List.count_singleton]
    by_cases h : r = j
    · subst h; simp
    · by_cases h2 : j < r
      · simp [h, h2]; omega
      · simp [h, h2]; omega
theorem shR_full (rate keeps : Int) {k r : Nat} {n base kp : Int} (h1 : keptF rate keeps n = kp) (h2 : (n * rate - kp) / (k : Int) = base) (h3 : (n * rate - kp) % (k : Int) = (r : Int)) : shR base kp k (List.range r) = sharesF rate keeps k n := by
  unfold shR sharesF
  rw [h1, h2, h3]
  refine List.map_congr_left fun i hi => ?_
  have hi : i < k := by simpa using hi
  rw [count_range]
  by_cases h : k - 1 - i < r
  · rw [if_pos h, if_pos (show (k : Int) - (r : Int) ≤ (i : Int) by omega)]; rfl
  · rw [if_neg h, if_neg (show ¬ ((k : Int) - (r : Int) ≤ (i : Int)) by omega)]; rfl
theorem MemoL.put {w : World} {bm n D : Nat} {F : Int → Int → List Int} {av : List (Option Nat)} (h : MemoL w bm n F av) {o : Obj} (hD : w.heap[D]? = some o) (ho : o.isCells = false) (hne : D ≠ bm) (o' : Obj) : MemoL (w.putObj D o') bm n F av := by
  obtain ⟨M, hM, hG⟩ := h
  refine ⟨M, hM.kept (grownBy_putObj' w D o') (by simpa using fun e => hne e.symm), fun d x kl h1 h2 => ?_⟩
  obtain ⟨b, c, h3, h4, h5, h6⟩ := hG d x kl h1 h2
  refine ⟨b, c, h3, fun k hk => ?_, Nat.lt_of_lt_of_le h5 (grownBy_putObj' w D o').size, h6⟩
  obtain ⟨b', off, e, hb, hc⟩ := h4 k hk
  exact ⟨b', off, e, Nat.lt_of_lt_of_le hb (grownBy_putObj' w D o').size, cell_kept hc (grownBy_putObj' w D o') (fun r e => by cases e; exact ⟨o, hD, ho⟩)⟩
def shF (rate keeps : Int) (ds : List Dis) (d x : Int) : List Int := sharesF rate keeps (ds.getD d.toNat ⟨0, 0, 0, []⟩).passed.length x

set_option maxRecDepth 100000 in
set_option maxHeartbeats 2000000 in
theorem work_ok (st rate keeps : Int) (ds : List Dis) (ad : Option Addr) (cd : Nat) (w : World) (hd : DisAt w ad ds) (sm : AccSmall ⟨st, rate, keeps, ds⟩) (h0 : accErr ⟨st, rate, keeps, ds⟩ = 0) :
    Calls Try.prog 30 #[.agg #[.int .i64 st, .int .i64 rate, .int .i64 keeps, .slice ad ds.length cd]] w fun e w' => (∃ B bm, e = .returned (.tuple #[.pointer (some ⟨B, 0, none⟩), .int .i64 0]) ∧ w.heap.size ≤ B ∧ w.heap.size ≤ bm ∧ WkAt w' B bm st rate keeps ad ds.length cd ∧ MemoL w' bm 0 (shF rate keeps ds) []) ∧ Below w.heap.size w w' := by
  have chk := fun W (b : Below w.heap.size w W) => checkAccount_any st rate keeps ds ad cd W (hd.below b) sm
  rw [h0] at chk
  have mk : ∀ W, Sem.run Try.prog (Instr.makeMap 108 none) W = .ok (.map (some W.heap.size)) (W.alloc (.map #[] 0)) := fun W => by kernel_rfl
  have CA := Cells.new w #[.int .i64 st, .int .i64 rate, .int .i64 keeps, .slice ad ds.length cd] 55
  go_enter Try.func30, Try.ntmps30
  go_wp2_with fail
  go_at_call 52
  refine (chk _ (by (repeat (first | exact Below.refl _ _ | refine Below.alloc ?_ (by first | omega | (simp; done) | (simp; omega)) _ | refine Below.drew ?_ | refine Below.setCell ?_ (by first | omega | (simp; done) | (simp; omega)) _ | refine Below.trans ?_ (Below.mono (by assumption) (by first | omega | (simp; done) | (simp; omega))))))).mono ?_
  rintro e w1 ⟨rfl, b1⟩
  have t1 : Below w.heap.size w w1 := by (repeat (first | exact Below.refl _ _ | refine Below.alloc ?_ (by first | omega | (simp; done) | (simp; omega)) _ | refine Below.drew ?_ | refine Below.setCell ?_ (by first | omega | (simp; done) | (simp; omega)) _ | refine Below.trans ?_ (Below.mono (by assumption) (by first | omega | (simp; done) | (simp; omega)))))
  have C1 := CA.below b1
  have q0 := C1.cell 0
  have q1 := C1.cell 1
  have q2 := C1.cell 2
  have q3 := C1.cell 3
  have lq := C1.lt
  simp at q0 q1 q2 q3
  clear chk CA
  go_wp2
  go_ret2
  have M1 := MemoL.made w1 (shF rate keeps ds) []
  have CB := Cells.new' (w1.alloc (.map #[] 0)) #[.int .i64 st, .int .i64 rate, .int .i64 keeps, .slice ad ds.length cd, .map (some w1.heap.size)] 110 (w1.heap.size + 1) (by simp)
  exact ⟨⟨w1.heap.size + 1, w1.heap.size, rfl, by have := t1.size; omega, t1.size, ⟨CB.cell 0, CB.cell 1, CB.cell 2, CB.cell 3, CB.cell 4⟩, M1.below ((Below.refl _ _).alloc (Nat.le_refl _) _)⟩, (t1.alloc t1.size _).alloc (by have := t1.size; simp; omega) _⟩

set_option maxRecDepth 100000 in
set_option maxHeartbeats 2000000 in
theorem work_bad (st rate keeps : Int) (ds : List Dis) (ad : Option Addr) (cd : Nat) (w : World) (E : Int) (hd : DisAt w ad ds) (sm : AccSmall ⟨st, rate, keeps, ds⟩) (hE : accErr ⟨st, rate, keeps, ds⟩ = E) (hne : E ≠ 0) :
    Calls Try.prog 30 #[.agg #[.int .i64 st, .int .i64 rate, .int .i64 keeps, .slice ad ds.length cd]] w fun e w' => e = .returned (.tuple #[.pointer none, .int .i64 E]) ∧ Below w.heap.size w w' := by
  have chk := fun W (b : Below w.heap.size w W) => checkAccount_any st rate keeps ds ad cd W (hd.below b) sm
  rw [hE] at chk
  have h1 : (E != 0) = true := by simpa using hne
  have h2 : (E == 0) = false := by simpa using hne
  clear hE
  go_enter Try.func30, Try.ntmps30
  go_wp2_with fail
  go_at_call 52
  refine (chk _ (by (repeat (first | exact Below.refl _ _ | refine Below.alloc ?_ (by first | omega | (simp; done) | (simp; omega)) _ | refine Below.drew ?_ | refine Below.setCell ?_ (by first | omega | (simp; done) | (simp; omega)) _ | refine Below.trans ?_ (Below.mono (by assumption) (by first | omega | (simp; done) | (simp; omega))))))).mono ?_
  rintro e w1 ⟨rfl, b1⟩
  have t1 : Below w.heap.size w w1 := by (repeat (first | exact Below.refl _ _ | refine Below.alloc ?_ (by first | omega | (simp; done) | (simp; omega)) _ | refine Below.drew ?_ | refine Below.setCell ?_ (by first | omega | (simp; done) | (simp; omega)) _ | refine Below.trans ?_ (Below.mono (by assumption) (by first | omega | (simp; done) | (simp; omega)))))
  go_wp2
  go_ret2
  exact ⟨rfl, t1⟩

attribute [local go_sem] Oper.semAt_some
section
variable (B bm : Nat) (st rate keeps : Int) (ds : List Dis) (ad : Option Addr) (cd : Nat) (i : Nat) (x : Int) (n : Nat) (w : World) (hw : WkAt w B bm st rate keeps ad ds.length cd) (hd : DisAt w ad ds) (av : List (Option Nat)) (hav : ∀ q, some q ∈ av → q < w.heap.size) (hM : MemoL w bm n (shF rate keeps ds) av) (hi : i < ds.length) (hr : 0 ≤ rate ∧ rate ≤ 20) (hk : 0 ≤ keeps ∧ keeps ≤ 100) (hx : 1 ≤ x ∧ x ≤ 200) (hp : 1 ≤ ds[i].passed.length ∧ ds[i].passed.length ≤ 5) (hl : ds.length ≤ 1000) (hn : n < maxLen)
include hav hw hd hM hi hr hk hx hp hl hn
set_option maxRecDepth 100000 in
set_option maxHeartbeats 4000000 in
theorem shares_any : Calls Try.prog 39 #[.pointer (some ⟨B, 0, none⟩), .agg #[.int .i64 (i : Int), .int .i64 x]] w fun e w' => (∃ g c, e = .returned (.slice (some ⟨g, 0, none⟩) ds[i].passed.length c) ∧ IntsAt w' (some ⟨g, 0, none⟩) (sharesF rate keeps ds[i].passed.length x)) ∧ Keep bm w w' ∧ MemoL w' bm (n + 1) (shF rate keeps ds) av := by
  have hFe : shF rate keeps ds (i : Int) x = sharesF rate keeps ds[i].passed.length x := by simp [shF, hi]
  obtain ⟨W1, hW1⟩ : ∃ z : World, z = w.alloc (.cells #[.int .i64 (i : Int), .int .i64 x] 91) := ⟨_, rfl⟩
  have t1 : Below w.heap.size w W1 := by rw [hW1]; (repeat (first | exact Below.refl _ _ | refine Below.alloc ?_ (by first | omega | (simp; done) | (simp; omega)) _ | refine Below.drew ?_ | refine Below.setCell ?_ (by first | omega | (simp; done) | (simp; omega)) _ | refine Below.trans ?_ (Below.mono (by assumption) (by first | omega | (simp; done) | (simp; omega)))))
  have CP : Cells W1 w.heap.size #[.int .i64 (i : Int), .int .i64 x] 91 := by rw [hW1]; exact Cells.new _ _ _
  have M1 := hM.below t1
  have K1 := hw.below t1
  obtain ⟨a0, m0, c0, hit, hlk, hG⟩ := M1.look (i : Int) x (by omega) (by omega)
  simp only [pricedV] at hlk
  have p0 := CP.cell 0
  have p1 := CP.cell 1
  have lp := CP.lt
  simp at p0 p1
  have q4 := K1.c4
  have lB := K1.lt
  have S0 : ∀ X, Below W1.heap.size W1 X → X.cell? ⟨B, 4, none⟩ = some (.map (some bm)) ∧ X.cell? ⟨w.heap.size, 0, none⟩ = some (.int .i64 (i : Int)) ∧ X.cell? ⟨w.heap.size, 1, none⟩ = some (.int .i64 x) ∧ Sem.run Try.prog (Instr.lookup 108 (.map (some bm)) (.agg #[.int .i64 (i : Int), .int .i64 x]) true) X = .ok (.tuple #[.slice a0 m0 c0, .bool hit]) X := fun X h => ⟨below_cell h q4, below_cell h p0, below_cell h p1, hlk ⟨X, h⟩⟩
  have LK := fun X (h : Below W1.heap.size W1 X) => (S0 X h).2.2.2
  cases hit
  · have hP0 : 0 ≤ x * rate := Int.mul_nonneg (by omega) hr.1
    have hP1 : x * rate ≤ 4000 := Int.le_trans (Int.mul_le_mul hx.2 hr.2 hr.1 (by omega)) (by decide)
    obtain ⟨P, hPe⟩ : ∃ P, x * rate = P := ⟨_, rfl⟩
    rw [hPe] at hP0 hP1
    have hY0 : 0 ≤ P * keeps := Int.mul_nonneg hP0 hk.1
    have hY1 : P * keeps ≤ P * 100 := Int.mul_le_mul_of_nonneg_left hk.2 hP0
    obtain ⟨Y, hYe⟩ : ∃ Y, P * keeps = Y := ⟨_, rfl⟩
    rw [hYe] at hY0 hY1
    obtain ⟨kp, hkp⟩ : ∃ kp, Y / 100 = kp := ⟨_, rfl⟩
    have hkp1 : 0 ≤ kp ∧ kp ≤ P := by omega
    obtain ⟨k, hke⟩ : ∃ k, ds[i].passed.length = k := ⟨_, rfl⟩
    rw [hke] at hp
    obtain ⟨base, hba⟩ : ∃ b, (P - kp) / (k : Int) = b := ⟨_, rfl⟩
    obtain ⟨rem, hre⟩ : ∃ b, (P - kp) % (k : Int) = b := ⟨_, rfl⟩
    have hba1 : 0 ≤ base ∧ base ≤ 4000 := by
      rw [← hba]
      exact ⟨Int.ediv_nonneg (by omega) (by omega), Int.le_trans (Int.ediv_le_self _ (by omega)) (by omega)⟩
    have hre1 : 0 ≤ rem ∧ rem < k := by
      rw [← hre]
      exact ⟨Int.emod_nonneg _ (by omega), Int.emod_lt_of_pos _ (by omega)⟩
    refine (callsIn_wide (n := 5)).1 ?_
    refine callsIn_of_wp_marks Try.func39 rfl trivial ?_ rfl
    simp only [Try.ntmps39, List.size_toArray, List.length_cons, List.length_nil, Nat.reduceAdd, Nat.reduceSub, Array.replicate_succ, Array.replicate_zero, List.push_toArray, List.append_toArray, List.nil_append, List.cons_append]
    refine wpIn_wide.2 ?_
    go_wp2
    rw [← hW1]
    clear hW1 hG
    go_region_held3 (fun w' => w'.cell? ⟨B, 4, none⟩ = some (.map (some bm)) ∧ w'.cell? ⟨w.heap.size, 0, none⟩ = some (.int .i64 (i : Int)) ∧ w'.cell? ⟨w.heap.size, 1, none⟩ = some (.int .i64 x) ∧ Sem.run Try.prog (Instr.lookup 108 (.map (some bm)) (.agg #[.int .i64 (i : Int), .int .i64 x]) true) w' = .ok (.tuple #[.slice a0 m0 c0, .bool false]) w')
      (first
        | exact S0 _ ((Below.refl _ _).drew)
        | exact S0 _ (((Below.refl _ _).drew).alloc (by first | exact Nat.le_refl _ | (simp; done)) _)
        | exact S0 _ (by (repeat (first | exact Below.refl _ _ | refine Below.alloc ?_ (by first | omega | (simp; done) | (simp; omega)) _ | refine Below.drew ?_ | refine Below.setCell ?_ (by first | omega | (simp; done) | (simp; omega)) _ | refine Below.trans ?_ (Below.mono (by assumption) (by first | omega | (simp; done) | (simp; omega)))))))
      (fail)
    clear S0 LK hlk
    all_goals
      obtain ⟨W2, hW2⟩ : ∃ z : World, z = (W1.alloc (.cells #[.slice a0 m0 c0] 25)).drew := ⟨_, rfl⟩
      have b2 : Below W1.heap.size W1 W2 := by rw [hW2]; exact ((Below.refl _ _).alloc (Nat.le_refl _) _).drew
      have C5 : Cells W2 W1.heap.size #[.slice a0 m0 c0] 25 := by rw [hW2]; exact Cells.new W1 _ _
      rw [← hW2]
      clear hW2
      have t2 := t1.trans (b2.mono t1.size)
      replace p0 := below_cell b2 p0
      replace p1 := below_cell b2 p1
      replace lp := Nat.lt_of_lt_of_le lp b2.size
      replace q4 := below_cell b2 q4
      replace lB := Nat.lt_of_lt_of_le lB b2.size
      have q1 := below_cell b2 K1.c1
      have q2 := below_cell b2 K1.c2
      have q3 := below_cell b2 K1.c3
      replace M1 := M1.below b2
      have wP : IntKind.i64.wrap (x * rate) = P := by rw [hPe]; exact IntWalk.i64_in _ (by omega)
      go_wp2
      (refine wp_region_ext 8 (by kernel_rfl) (by kernel_rfl) ?_; simp only [List.take_succ_cons, List.take_zero, List.drop_succ_cons, List.drop_zero]; (repeat (go_big_quiet_step ((fail)))); refine wpQuiet_nil ?_; rintro _ ⟨ex, rfl⟩; have hex := ex.below; have hexz := ex.size; (try simp at hexz); (try (have hy0 : w.heap.size < ex.to.heap.size := by omega)); (try (have hy1 : w.heap.size + 1 < ex.to.heap.size := by omega)); (try (have hy2 : w.heap.size + 2 < ex.to.heap.size := by omega)))
      have b3 := ex.below
      obtain ⟨W3, hW3⟩ : ∃ z : World, z = ex.to := ⟨_, rfl⟩
      rw [← hW3] at b3 ⊢
      clear hW3
      obtain ⟨bd, od, al, cl, rfl, hbd, -, -, -, e3, hPa⟩ := (((hd.below t1).below b2).below b3) i hi
      rw [hke] at e3
      have hiI : (i : Int) < (ds.length : Int) := by omega
      replace p0 := below_cell b3 p0
      replace lp := Nat.lt_of_lt_of_le lp b3.size
      replace lB := Nat.lt_of_lt_of_le lB b3.size
      replace q1 := below_cell b3 q1
      replace q2 := below_cell b3 q2
      replace q3 := below_cell b3 q3
      replace q4 := below_cell b3 q4
      clear wP
      go_wp2
      (refine wp_region_ext 11 (by kernel_rfl) (by kernel_rfl) ?_; simp only [List.take_succ_cons, List.take_zero, List.drop_succ_cons, List.drop_zero]; (repeat (go_big_quiet_step ((fail)))); refine wpQuiet_nil ?_; rintro _ ⟨ex, rfl⟩; have hex := ex.below; have hexz := ex.size; (try simp at hexz); (try (have hy0 : w.heap.size < ex.to.heap.size := by omega)); (try (have hy1 : w.heap.size + 1 < ex.to.heap.size := by omega)); (try (have hy2 : w.heap.size + 2 < ex.to.heap.size := by omega)))
      have b4 := ex.below
      obtain ⟨W4, hW4⟩ : ∃ z : World, z = ex.to := ⟨_, rfl⟩
      rw [← hW4] at b4 ⊢
      clear hW4 p1 e3
      have C4 := (C5.below b3).below b4
      replace q2 := below_cell b4 q2
      replace q4 := below_cell b4 q4
      replace lB := Nat.lt_of_lt_of_le lB b4.size
      replace p0 := below_cell b4 p0
      have p1 := below_cell b4 (below_cell b3 (below_cell b2 (CP.cell 1)))
      simp at p1
      replace lp := Nat.lt_of_lt_of_le lp b4.size
      have t4 := t2.trans ((b3.trans (b4.mono b3.size)).mono t2.size)
      have wY : IntKind.i64.wrap (P * keeps) = Y := by rw [hYe]; exact IntWalk.i64_in _ (by omega)
      have wk : IntKind.i64.wrap kp = kp := IntWalk.i64_in _ (by omega)
      have wQ : Y.tdiv 100 = kp := by rw [Int.tdiv_eq_ediv_of_nonneg hY0]; exact hkp
      have wd : IntKind.i64.wrap (P - kp) = P - kp := IntWalk.i64_in _ (by omega)
      have wb : (P - kp).tdiv (k : Int) = base := by rw [Int.tdiv_eq_ediv_of_nonneg (by omega)]; exact hba
      have wb2 : IntKind.i64.wrap base = base := IntWalk.i64_in _ (by omega)
      have hk0 : ¬ ((k : Int) = 0) := by omega
      go_wp2_with fail
      go_at_call 54
      have bA : Below W4.heap.size W4 (W4.alloc (.cells #[.int .i64 base] 3)) := (Below.refl _ _).alloc (Nat.le_refl _) _
      refine (repeat_any _ base 1 k _ ((Cells.new W4 _ _).ints [base] rfl) (by omega) (by omega)).mono ?_
      rintro e w5 ⟨⟨g, rfl, hg, CG⟩, b5⟩
      have b45 := bA.trans (b5.mono bA.size)
      have hgl : W4.heap.size < g := by have := bA.size; simp at hg; omega
      have C5w := C4.below b45
      have y0 := C5w.cell 0
      have yf := C5w.frozen 0
      have yl := C5w.lt
      simp at y0
      go_upto_region 8 with fail
      obtain ⟨W6, hW6⟩ : ∃ z : World, z = w5.setCell ⟨W1.heap.size, 0, none⟩ (.slice (some ⟨g, 0, none⟩) k k) := ⟨_, rfl⟩
      have z24 : W1.heap.size < W2.heap.size := C5.lt
      have z34 : W2.heap.size ≤ W4.heap.size := Nat.le_trans b3.size b4.size
      have b14 : Below W1.heap.size W1 W4 := b2.trans ((b3.trans (b4.mono b3.size)).mono b2.size)
      have b16 : Below W1.heap.size W1 W6 := by rw [hW6]; exact (b14.trans (b45.mono b14.size)).setCell (p := ⟨W1.heap.size, 0, none⟩) (Nat.le_refl _) _
      have C6 : Cells W6 W1.heap.size #[.slice (some ⟨g, 0, none⟩) k k] 25 := by rw [hW6]; exact C5w.set 0 _
      have CG6 : Cells W6 g (List.replicate k (.int .i64 base)).toArray 3 := by rw [hW6]; exact CG.other (by omega) _ _
      rw [← hW6]
      clear hW6 y0 yf yl CG C5w C4 C5 b5 bA hg
      have y0 := C6.cell 0
      have yl := C6.lt
      have x0 := CG6.cell 0
      have xf := CG6.frozen 0
      have xl := CG6.lt
      have hk1 : 0 < k := hp.1
      simp [hk1] at y0 x0
      have wA : IntKind.i64.wrap (base + kp) = base + kp := IntWalk.i64_in _ (by omega)
      have hkI : (0 : Int) < (k : Int) := by omega
      go_upto_region 9 with fail
      obtain ⟨W7, hW7⟩ : ∃ z : World, z = W6.setCell ⟨g, 0, none⟩ (.int .i64 (base + kp)) := ⟨_, rfl⟩
      have b17 : Below W1.heap.size W1 W7 := by rw [hW7]; exact b16.setCell (p := ⟨g, 0, none⟩) (by show W1.heap.size ≤ g; omega) _
      have C7 : Cells W7 W1.heap.size #[.slice (some ⟨g, 0, none⟩) k k] 25 := by rw [hW7]; exact C6.other (by omega) _ _
      have CG7 : Cells W7 g (shA base kp k []) 3 := by rw [hW7, ← shA_zero base kp hp.1]; exact CG6.set 0 _
      rw [← hW7]
      clear hW7 y0 yl x0 xf xl C6 CG6 b16
      obtain ⟨r, rfl⟩ : ∃ r : Nat, rem = (r : Int) := ⟨rem.toNat, by omega⟩
      have wr : (P - kp).tmod (k : Int) = (r : Int) := by rw [Int.tmod_eq_emod_of_nonneg (by omega)]; exact hre
      go_wp2_with fail
      go_at_call 55
      refine (remain_any (r : Int) (k : Int) _).mono ?_
      rintro e w8 ⟨rfl, rfl⟩
      have CP8 : Cells ((W7.alloc (.cells #[.int .i64 (r : Int)] 3)).alloc (.cells #[.int .i64 (k : Int)] 3)) W7.heap.size #[.int .i64 (r : Int)] 3 := (Cells.new _ _ _).alloc _
      have CM8 : Cells ((W7.alloc (.cells #[.int .i64 (r : Int)] 3)).alloc (.cells #[.int .i64 (k : Int)] 3)) (W7.heap.size + 1) #[.int .i64 (k : Int)] 3 := Cells.new' _ _ _ _ (by simp)
      have b78 : Below W7.heap.size W7 ((W7.alloc (.cells #[.int .i64 (r : Int)] 3)).alloc (.cells #[.int .i64 (k : Int)] 3)) := by (repeat (first | exact Below.refl _ _ | refine Below.alloc ?_ (by first | omega | (simp; done) | (simp; omega)) _ | refine Below.drew ?_ | refine Below.setCell ?_ (by first | omega | (simp; done) | (simp; omega)) _ | refine Below.trans ?_ (Below.mono (by assumption) (by first | omega | (simp; done) | (simp; omega)))))
      obtain ⟨W8, hW8⟩ : ∃ z : World, z = (W7.alloc (.cells #[.int .i64 (r : Int)] 3)).alloc (.cells #[.int .i64 (k : Int)] 3) := ⟨_, rfl⟩
      rw [← hW8] at CP8 CM8 b78 ⊢
      have z8 : W8.heap.size = W7.heap.size + 1 + 1 := by rw [hW8]; simp
      clear hW8 wr
      have b18 := b17.trans (b78.mono b17.size)
      have C8 := C7.below b78
      have CG8 := CG7.below b78
      have lg7 := CG7.lt
      clear C7 CG7 b17
      go_wp2
      refine act_elim (fun A => (A.defers = [] ∧ A.tmps.getD 0 undef = .pointer (some ⟨B, 0, none⟩) ∧ A.tmps.getD 3 undef = .pointer (some ⟨w.heap.size, 0, none⟩) ∧ A.tmps.getD 5 undef = .pointer (some ⟨W1.heap.size, 0, none⟩) ∧ A.tmps.getD 69 undef = .func (.func 70) #[] #[.pointer (some ⟨W7.heap.size, 0, none⟩), .pointer (some ⟨W7.heap.size + 1, 0, none⟩)]) → Code.wp _ _ _ A W8) rfl ?_ ⟨rfl, rfl, rfl, rfl, rfl⟩
      intro dfs x0 x1 x2 x3 x4 x5 x6 x7 x8 x9 x10 x11 x12 x13 x14 x15 x16 x17 x18 x19 x20 x21 x22 x23 x24 x25 x26 x27 x28 x29 x30 x31 x32 x33 x34 x35 x36 x37 x38 x39 x40 x41 x42 x43 x44 x45 x46 x47 x48 x49 x50 x51 x52 x53 x54 x55 x56 x57 x58 x59 x60 x61 x62 x63 x64 x65 x66 x67 x68 x69 x70 x71 x72 x73 x74 x75 x76 x77 x78 x79 x80 x81 x82 x83 ⟨hdf, g0, g3, g5, g69⟩
      simp only [Array.getD_eq_getD_getElem?, List.getElem?_toArray, List.getElem?_cons_zero, List.getElem?_cons_succ, Option.getD_some] at hdf g0 g3 g5 g69
      subst hdf g0 g3 g5 g69
      refine (wpIn_wide (n := 5)).1 ?_
      refine wpIn_rangeFunc_ownG rfl (by omega) (gf := 70) (lb := #[.pointer (some ⟨W7.heap.size, 0, none⟩), .pointer (some ⟨W7.heap.size + 1, 0, none⟩)]) rfl trivial (enters_of Try.func70 (by kernel_rfl) rfl)
        (remain_stops 4 (by omega) W8.heap.size g W7.heap.size (W7.heap.size + 1) r k (by omega) (by omega) W8 (by have := CP8.cell 0; simpa using this) (by have := CM8.cell 0; simpa using this) (by omega) (by omega) (by omega) (by omega)) KX.trans (fun W l o o' _ h ho _ => KX.putObj W l o o' h ho) (Below.refl _ _) (fun _ => rfl)
        (fun (pre : List (RV r)) V => Cells V g (shA base kp k (pre.map (fun y : RV r => y.1))) 3 ∧ Below g W8 V)
        (fun _ _ _ => False)
        (fun pre X Y row hs hg hr => ⟨(hg.block _ hs.1.lt (fun e => by have := (hr _ e.symm).1; omega)).trans hs.1, hs.2.grown hg (by have := hs.1.lt; omega) (fun q e => by have := (hr q e).1; omega)⟩)
        (fun _ _ _ _ _ hs _ _ => hs)
        ⟨CG8, Below.refl _ _⟩
        (fun z => { tmps := #[.pointer (some ⟨B, 0, none⟩), x1, x2, .pointer (some ⟨w.heap.size, 0, none⟩), x4, .pointer (some ⟨W1.heap.size, 0, none⟩), x6, x7, x8, x9, .int .i64 ((k : Int) - 1 - (z.1 : Int)), x11, x12, x13, x14, x15, x16, x17, x18, x19, x20, x21, x22, x23, x24, x25, x26, x27, x28, x29, x30, x31, x32, x33, x34, x35, x36, x37, x38, x39, x40, x41, x42, x43, x44, x45, x46, x47, x48, x49, x50, x51, x52, x53, x54, x55, x56, x57, x58, x59, x60, x61, x62, x63, x64, x65, x66, x67, x68, .func (.func 70) #[] #[.pointer (some ⟨W7.heap.size, 0, none⟩), .pointer (some ⟨W7.heap.size + 1, 0, none⟩)], .int .i64 ((k : Int) - 1 - (z.1 : Int)), x71, x72, x73, x74, x75, x76, x77, x78, x79, x80, x81, x82, x83], defers := [] }) ?assign ?body ?done ?stop
      case assign =>
        intro l z W K hK
        unfold encR
        gi_wp2
        exact hK
      case body =>
        rintro l0 pre ⟨i', hi'⟩ V ⟨CV, bV⟩ hlt
        dsimp only
        have C8V : Cells V W1.heap.size #[.slice (some ⟨g, 0, none⟩) k k] 25 := (bV.block W1.heap.size (by omega)).trans C8
        have y0 := C8V.cell 0
        have yl := C8V.lt
        simp at y0
        have hik : i' < k := by omega
        have x0 := CV.cell (k - 1 - i')
        rw [shA_get base kp _ hik] at x0
        have hst := shA_step base kp (pre.map (fun y : RV r => y.1)) hik
        have hcn : ((pre.map (fun y : RV r => y.1)).count i' : Nat) ≤ 5 := Nat.le_trans List.count_le_length (by simp; omega)
        obtain ⟨v, hv⟩ : ∃ v, base + (if k - 1 - i' = 0 then kp else 0) + ((pre.map (fun y : RV r => y.1)).count i' : Nat) = v := ⟨_, rfl⟩
        have hvb : 0 ≤ v ∧ v ≤ 9000 := by rw [← hv]; split <;> omega
        rw [hv] at x0 hst
        have xf := CV.frozen (k - 1 - i')
        have xl := CV.lt
        have hi1 : (k : Int) - 1 - (i' : Int) = ((k - 1 - i' : Nat) : Int) := by omega
        have hi2 : ((k - 1 - i' : Nat) : Int) < (k : Int) := by omega
        have wv : IntKind.i64.wrap (v + 1) = v + 1 := IntWalk.i64_in _ (by omega)
        rw [hi1]
        gi_wp2
        exact ⟨(KeepsOthers.setCell _ _ _).from _, KX.setCell _ _ _, by rw [List.map_append]; have h9 := CV.set (k - 1 - i') (.int .i64 (v + 1)); rw [hst] at h9; exact h9, bV.setCell (p := ⟨g, k - 1 - i', none⟩) (Nat.le_refl _) _⟩
      case done =>
        intro D ys V hD hys hI hK
        obtain ⟨CV, bV⟩ := hI
        rw [show ys.map (fun y : RV r => y.1) = List.range r by rw [show ys = rvs r r (Nat.le_refl _) from hys, rvs_map]] at CV
        have hsh : shR base kp k (List.range r) = sharesF rate keeps k x := shR_full rate keeps (by unfold keptF; rw [hPe, hYe]; exact hkp) (by rw [hPe]; exact hba) (by rw [hPe]; exact hre)
        have b1V : Below W1.heap.size W1 V := b18.trans (bV.mono (by omega))
        have iV : IntsAt V (some ⟨g, 0, none⟩) (sharesF rate keeps k x) := CV.ints _ (by unfold shA; rw [hsh])
        have C8V : Cells V W1.heap.size #[.slice (some ⟨g, 0, none⟩) k k] 25 := (bV.block W1.heap.size (by omega)).trans C8
        have MV := (hM.below t1).below b1V
        have q4V := below_cell b1V K1.c4
        have p0V := below_cell b1V (CP.cell 0)
        have p1V := below_cell b1V (CP.cell 1)
        have y0 := C8V.cell 0
        have yl := C8V.lt
        have lBV := cell_ltK q4V
        have lpV := cell_ltK p0V
        simp at y0 p0V p1V
        have hbw := hM.lt
        have hz1 := t1.size
        have HK := Lib.hid hK
        have HD := Lib.hid hD
        have CVl := CV.lt
        clear hK hys CV
        go_wp2
        (refine wp_region_ext 6 (by kernel_rfl) (by kernel_rfl) ?_; simp only [List.take_succ_cons, List.take_zero, List.drop_succ_cons, List.drop_zero]; (repeat (go_big_quiet_step ((fail)))); refine wpQuiet_nil ?_; rintro _ ⟨ex, rfl⟩; have hex := ex.below; have hexz := ex.size; (try simp at hexz); (try (have hy0 : w.heap.size < ex.to.heap.size := by omega)); (try (have hy1 : w.heap.size + 1 < ex.to.heap.size := by omega)); (try (have hy2 : w.heap.size + 2 < ex.to.heap.size := by omega)))
        have bX := ex.below
        obtain ⟨X, hX⟩ : ∃ z : World, z = ex.to := ⟨_, rfl⟩
        rw [← hX] at bX ⊢
        clear hX
        have C8X := C8V.below bX
        have tX : Below w.heap.size w X := t1.trans ((b1V.trans (bX.mono b1V.size)).mono t1.size)
        have hlen : (shF rate keeps ds (i : Int) x).length = k := by rw [hFe, sharesF_len]; exact hke
        refine wpList_memoL_put (i : Int) x (by omega) (by omega) rfl _ _ _ rfl rfl rfl g k (by rw [hlen]; rfl) (by rw [hFe, hke]; exact iV.below bX) (by have := CVl; have := bX.size; omega) (fun e => by have := hav g e; omega) (MV.below bX) hn ?_
        intro X3 M3 K3
        have y3 := K3.cell (C8X.cell 0)
        have l3 := cell_ltK y3
        simp at y3
        have hK3 : X3.heap[D]? = some (.deferred (some [])) := (K3.grown.block D (by have := (Array.getElem?_eq_some_iff.1 HK.out).1; have := bX.size; omega) (fun e => by have := HD.out; have := Option.some.inj e; omega)).trans ((bX.block D (Array.getElem?_eq_some_iff.1 HK.out).1).trans HK.out)
        have i3 := (iV.below bX).keep K3
        go_wp2
        have hDb : D ≠ bm := by have := HD.out; omega
        refine ⟨by simp, .inl ⟨_, _, rfl, run_takeDeferred hK3, ?_⟩⟩
        refine ⟨_, results_tmp rfl _ _ _, ⟨g, k, ?_, ?_⟩, ?_, M3.put hK3 rfl hDb _⟩
        · rw [hke]; rfl
        · rw [hke]
          exact fun q hq => by
            obtain ⟨b', off', e', hb', hc'⟩ := i3 q hq
            exact ⟨b', off', e', Nat.lt_of_lt_of_le hb' (grownBy_putObj' X3 D _).size, cell_kept hc' (grownBy_putObj' X3 D _) (fun r e => by cases e; exact ⟨_, hK3, rfl⟩)⟩
        · have gp := fun o' => grownBy_putObj' X3 D o'
          have zX := tX.size
          have zX3 := K3.size
          refine ⟨⟨((gp _).os.trans K3.grown.os).trans tX.os, ((gp _).tape.trans K3.grown.tape).trans tX.tape, ((gp _).output.trans K3.grown.output).trans tX.output, Nat.le_trans zX (Nat.le_trans zX3 (gp _).size), fun q hq hn => ((gp _).block q (by omega) (fun e => by have := HD.out; have := Option.some.inj e; omega)).trans ((K3.grown.block q (by omega) hn).trans (tX.block q hq))⟩, hM.isMap, (M3.put hK3 rfl hDb _).isMap⟩
      case stop =>
        rintro D c pre V _ _ h _
        exact h.elim
  · have hG' := hG rfl
    rw [hFe, sharesF_len] at hG'
    obtain ⟨rfl, ⟨g, rfl⟩, hI⟩ := hG'
    clear hFe hG
    go_enter Try.func39, Try.ntmps39
    go_wp2
    rw [← hW1]
    clear hW1
    go_region_held3 (fun w' => w'.cell? ⟨B, 4, none⟩ = some (.map (some bm)) ∧ w'.cell? ⟨w.heap.size, 0, none⟩ = some (.int .i64 (i : Int)) ∧ w'.cell? ⟨w.heap.size, 1, none⟩ = some (.int .i64 x) ∧ Sem.run Try.prog (Instr.lookup 108 (.map (some bm)) (.agg #[.int .i64 (i : Int), .int .i64 x]) true) w' = .ok (.tuple #[.slice (some ⟨g, 0, none⟩) ds[i].passed.length c0, .bool true]) w')
      (first
        | exact S0 _ ((Below.refl _ _).drew)
        | exact S0 _ (((Below.refl _ _).drew).alloc (by first | exact Nat.le_refl _ | (simp; done)) _)
        | exact S0 _ (by (repeat (first | exact Below.refl _ _ | refine Below.alloc ?_ (by first | omega | (simp; done) | (simp; omega)) _ | refine Below.drew ?_ | refine Below.setCell ?_ (by first | omega | (simp; done) | (simp; omega)) _ | refine Below.trans ?_ (Below.mono (by assumption) (by first | omega | (simp; done) | (simp; omega)))))))
      (fail)
    all_goals
      go_wp2
      go_ret
      have b3 : Below W1.heap.size W1 ((W1.alloc (.cells #[.slice (some ⟨g, 0, none⟩) ds[i].passed.length c0] 25)).drew) := ((Below.refl _ _).alloc (Nat.le_refl _) _).drew
      exact ⟨⟨g, c0, rfl, hI.below b3⟩, Keep.of_below hM.isMap (t1.trans (b3.mono t1.size)), (M1.below b3).mono (by omega)⟩
end
end Go.Proofs.Ytaphfibfjepceaa
