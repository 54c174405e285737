/- book: records of lines, read again (the part of XTh that the bundle BV leaves out) -/
import Derived.Test.YticjeianiahppaaGreatDoorBV
namespace Go.Proofs.YticjeianiahppaaGreatDoor
set_option linter.unusedVariables false
set_option linter.unusedSimpArgs false
set_option linter.unnecessarySimpa false
theorem digit_inj {a b : Nat} (ha : a < 10) (hb : b < 10) (h : UInt8.ofNat (48 + a) = UInt8.ofNat (48 + b)) : a = b := by
  have : (UInt8.ofNat (48 + a)).toNat = (UInt8.ofNat (48 + b)).toNat := by rw [h]
  rw [UInt8.toNat_ofNat', UInt8.toNat_ofNat'] at this
  omega
theorem wide_inj (k n m : Nat) (hn : n < 10 ^ k) (hm : m < 10 ^ k) (h : zCH n k = zCH m k) : n = m := by
  induction k generalizing n m with
  | zero => simp at hn hm; omega
  | succ k ih =>
    unfold zCH at h
    have hl : (zCH (n / 10) k).length = (zCH (m / 10) k).length := by rw [zCC, zCC]
    obtain ⟨h1, h2⟩ := List.append_inj h hl
    rw [Nat.pow_succ] at hn hm
    have := ih (n / 10) (m / 10) (by omega) (by omega) h1
    have := digit_inj (Nat.mod_lt _ (by omega)) (Nat.mod_lt _ (by omega)) (List.cons.inj h2).1
    omega
theorem chk_next (s : List UInt8) (i : Nat) : chkL s i ≠ chkL s (i + 1) := by unfold chkL; omega
theorem size_app (l r : List (List UInt8)) : zIe (l ++ r) = zIe l + zIe r := by
  induction l with
  | nil => simp [zIe]
  | cons s l ih => simp only [List.cons_append, zIe, ih]; omega
/-- The number of two digits. -/
def dig2 : List UInt8 → Option Nat
  | a :: b :: _ => match Lib.digitVal a, Lib.digitVal b with
    | some x, some y => some (10 * x + y)
    | _, _ => none
  | _ => none
theorem dig_val {d : Nat} (h : d < 10) : Lib.digitVal (UInt8.ofNat (48 + d)) = some d := by
  have : (UInt8.ofNat (48 + d)).toNat = 48 + d := by rw [UInt8.toNat_ofNat']; omega
  unfold Lib.digitVal
  rw [this, if_pos (by omega)]
  congr 1; omega
theorem dig2_wide {n : Nat} (h : n < 100) (r : List UInt8) : dig2 (zCH n 2 ++ r) = some n := by
  show dig2 ((([] ++ [UInt8.ofNat (48 + n / 10 % 10)]) ++ [UInt8.ofNat (48 + n % 10)]) ++ r) = some n
  simp only [List.nil_append, List.cons_append, dig2]
  rw [dig_val (Nat.mod_lt _ (by omega)), dig_val (Nat.mod_lt _ (by omega))]
  simp only [Option.some.injEq]
  omega
/-- The line of the record, with an index, with which bytes begin. -/
def recAt (b : List UInt8) (i : Nat) : Option (List UInt8) :=
  match dig2 b with
  | none => none
  | some n => if n ≤ 80 ∧ 10 + n ≤ b.length ∧ recL ((b.drop 9).take n) i = b.take (10 + n) then some ((b.drop 9).take n) else none
/-- What can be read, at most so many lines. -/
def readL : Nat → List UInt8 → Nat → List (List UInt8)
  | 0, _, _ => []
  | k + 1, b, i => match recAt b i with
    | none => []
    | some s => s :: readL k (b.drop (10 + s.length)) (i + 1)
theorem readL_cons {b s : List UInt8} {i k : Nat} (h : recAt b i = some s) : readL (k + 1) b i = s :: readL k (b.drop (10 + s.length)) (i + 1) := by
  conv => lhs; unfold readL
  rw [h]
theorem rec_drop (s : List UInt8) (i : Nat) (r : List UInt8) : ((recL s i ++ r).drop 9).take s.length = s := by
  unfold recL
  have h : zCH s.length 2 ++ 45 :: (zCH (chkL s i) 5 ++ 45 :: (s ++ [10])) ++ r = (zCH s.length 2 ++ 45 :: (zCH (chkL s i) 5 ++ [45])) ++ (s ++ ([10] ++ r)) := by simp
  rw [h, List.drop_left' (by simp [zCC]), List.take_left' rfl]
/-- A record that begins some bytes has the length that they say. -/
theorem rec_head {s : List UInt8} {i : Nat} {r : List UInt8} (hs : s.length ≤ 80) : dig2 (recL s i ++ r) = some s.length := by
  unfold recL
  rw [List.append_assoc]
  exact dig2_wide (by omega) _
theorem recAt_rec {s : List UInt8} (i : Nat) (r : List UInt8) (hs : s.length ≤ 80) : recAt (recL s i ++ r) i = some s := by
  unfold recAt
  rw [rec_head hs]
  simp only [rec_drop]
  rw [if_pos ⟨hs, by rw [List.length_append, zLh]; omega, by rw [List.take_left' (zLh s i)]⟩]
theorem recAt_some {b : List UInt8} {i : Nat} {s : List UInt8} (h : recAt b i = some s) : s.length ≤ 80 ∧ ∃ r, b = recL s i ++ r := by
  unfold recAt at h
  split at h
  · cases h
  · rename_i n hd
    split at h
    · rename_i hc
      obtain rfl := Option.some.inj h
      have hl : ((b.drop 9).take n).length = n := by rw [List.length_take, List.length_drop]; omega
      refine ⟨by omega, b.drop (10 + n), ?_⟩
      rw [hc.2.2, List.take_append_drop]
    · cases h
theorem read_file {l : List (List UInt8)} (hl : ∀ s ∈ l, s.length ≤ 80) : ∀ (k i : Nat) (r : List UInt8), l.length ≤ k → readL k (zHL l i ++ r) i = l ++ readL (k - l.length) r (i + l.length) := by
  induction l with
  | nil => intro k i r _; simp [zHL]
  | cons s l ih =>
    intro k i r hk
    cases k with
    | zero => simp at hk
    | succ k =>
      rw [zHL, List.append_assoc, readL_cons (recAt_rec i _ (hl s List.mem_cons_self)), List.drop_left' (zLh s i), ih (fun x hx => hl x (List.mem_cons_of_mem _ hx)) k (i + 1) r (by simpa using hk)]
      simp only [List.cons_append, List.length_cons]
      rw [show k + 1 - (l.length + 1) = k - l.length by omega, show i + 1 + l.length = i + (l.length + 1) by omega]
/-- Nothing is read of a record that is not whole. -/
theorem recAt_cut {s : List UInt8} {i k : Nat} (hs : s.length ≤ 80) (hk : k < 10 + s.length) : recAt ((recL s i).take k) i = none := by
  cases h : recAt ((recL s i).take k) i with
  | none => rfl
  | some t =>
    exfalso
    obtain ⟨ht, r, e⟩ := recAt_some h
    have hl := congrArg List.length e
    rw [List.length_take, zLh, List.length_append, zLh] at hl
    have hd : dig2 ((recL s i).take k ++ (recL s i).drop k) = some s.length := by
      rw [List.take_append_drop]
      have := rec_head (i := i) (r := []) hs
      rwa [List.append_nil] at this
    rw [e, List.append_assoc, rec_head ht] at hd
    have := Option.some.inj hd
    omega
/-- Nor of one that stands at the place of the one before. -/
theorem recAt_next {s : List UInt8} {i : Nat} (r : List UInt8) (hs : s.length ≤ 80) : recAt (recL s (i + 1) ++ r) i = none := by
  cases h : recAt (recL s (i + 1) ++ r) i with
  | none => rfl
  | some t =>
    exfalso
    obtain ⟨ht, q, e⟩ := recAt_some h
    have hd := rec_head (i := i + 1) (r := r) hs
    rw [e, rec_head ht] at hd
    have hl := Option.some.inj hd
    have e2 := (List.append_inj e (by rw [zLh, zLh]; omega)).1
    have e3 := congrArg (fun b : List UInt8 => (b.drop 9).take s.length) e2
    have r1 := rec_drop s (i + 1) []
    have r2 := rec_drop t i []
    rw [List.append_nil] at r1 r2
    simp only [r1] at e3
    rw [← hl, r2] at e3
    subst e3
    unfold recL at e2
    have e4 := (List.append_inj e2 rfl).2
    have e5 := (List.cons.inj e4).2
    have e6 := (List.append_inj e5 (by rw [zCC, zCC])).1
    have := zQO s i
    have := zQO s (i + 1)
    exact chk_next s i (wide_inj 5 _ _ (by omega) (by omega) e6).symm
theorem readL_none {b : List UInt8} {i : Nat} (h : recAt b i = none) (k : Nat) : readL k b i = [] := by
  cases k with
  | zero => rfl
  | succ k => unfold readL; rw [h]
theorem recAt_nil (i : Nat) : recAt [] i = none := rfl
/-- How many of lines are whole in so many bytes, and how many bytes these have. -/
def wholeL : List (List UInt8) → Nat → Nat × Nat
  | [], _ => (0, 0)
  | s :: l, k => if 10 + s.length ≤ k then ((wholeL l (k - (10 + s.length))).1 + 1, 10 + s.length + (wholeL l (k - (10 + s.length))).2) else (0, 0)
theorem whole_le (l : List (List UInt8)) (k : Nat) : (wholeL l k).1 ≤ l.length := by
  induction l generalizing k with
  | nil => exact Nat.le_refl _
  | cons s l ih =>
    unfold wholeL
    split
    · exact Nat.succ_le_succ (ih _)
    · exact Nat.zero_le _
theorem whole_size (l : List (List UInt8)) (k : Nat) : (wholeL l k).2 = zIe (l.take (wholeL l k).1) := by
  induction l generalizing k with
  | nil => rfl
  | cons s l ih =>
    unfold wholeL
    split
    · simp only [List.take_succ_cons, zIe, ih]
    · rfl
/-- Of the first bytes of a file the whole records are read. -/
theorem read_cut {l : List (List UInt8)} (hl : ∀ s ∈ l, s.length ≤ 80) : ∀ (n k i : Nat), l.length ≤ n → readL n ((zHL l i).take k) i = l.take (wholeL l k).1 := by
  induction l with
  | nil =>
    intro n k i _
    rw [zHL, List.take_nil, readL_none (recAt_nil i)]; rfl
  | cons s l ih =>
    intro n k i hn
    have hs := hl s List.mem_cons_self
    unfold wholeL
    split
    · rename_i hk
      cases n with
      | zero => simp at hn
      | succ n =>
        rw [zHL, List.take_append, List.take_of_length_le (by rw [zLh]; exact hk)]
        rw [readL_cons (recAt_rec i _ hs), List.drop_left' (zLh s i), zLh, ih (fun x hx => hl x (List.mem_cons_of_mem _ hx)) n _ (i + 1) (by simpa using hn)]
        rfl
    · rename_i hk
      rw [zHL, List.take_append_of_le_length (by rw [zLh]; omega), readL_none (recAt_cut hs (by omega))]; rfl
/-- If one record is removed, those before it are read, and no others. -/
theorem read_place {l r : List (List UInt8)} {s : List UInt8} (hl : ∀ x ∈ l, x.length ≤ 80) (hr : ∀ x ∈ r, x.length ≤ 80) {k : Nat} (hk : l.length ≤ k) : readL k (zHL l 0 ++ zHL r (l.length + 1)) 0 = l := by
  rw [read_file hl k 0 _ hk]
  rw [Nat.zero_add, readL_none, List.append_nil]
  cases r with
  | nil => exact recAt_nil _
  | cons t r => exact recAt_next _ (hr t List.mem_cons_self)
end Go.Proofs.YticjeianiahppaaGreatDoor
