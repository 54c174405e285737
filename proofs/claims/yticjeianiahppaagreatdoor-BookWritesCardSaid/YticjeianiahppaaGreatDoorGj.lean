/- book: what Recover reads (plain) -/
import Derived.Test.YticjeianiahppaaGreatDoorGf
import Derived.Test.YticjeianiahppaaGreatDoorBZ
namespace Go.Proofs.YticjeianiahppaaGreatDoor
set_option linter.unusedVariables false
set_option linter.unusedSimpArgs false
set_option linter.unnecessarySimpa false
open Go.RowKit Go.Flow
theorem parse_wide (n : Nat) : ∀ (k acc : Nat), acc * 10 ^ k + 10 ^ k ≤ 1000000000000000000 → Lib.parseUint10 acc (zCH n k) = .ok (acc * 10 ^ k + n % 10 ^ k)
  | 0, acc, _ => by simp [zCH, Lib.parseUint10, Nat.mod_one]
  | k + 1, acc, h => by
    have hd : n / 10 ^ k % 10 < 10 := Nat.mod_lt _ (by omega)
    have ht : (UInt8.ofNat (48 + n / 10 ^ k % 10)).toNat = 48 + n / 10 ^ k % 10 := by rw [UInt8.toNat_ofNat']; omega
    have hp : 1 ≤ 10 ^ k := Nat.one_le_pow _ _ (by omega)
    have e10 : 10 ^ (k + 1) = 10 ^ k * 10 := Nat.pow_succ ..
    have hm : n % 10 ^ (k + 1) = n % 10 ^ k + 10 ^ k * (n / 10 ^ k % 10) := by rw [e10, Nat.mod_mul]
    have ha : acc * 10 ^ (k + 1) = acc * 10 * 10 ^ k := by rw [e10]; simp only [Nat.mul_assoc, Nat.mul_comm, Nat.mul_left_comm]
    have hb : acc ≤ acc * 10 ^ k := Nat.le_mul_of_pos_right _ hp
    have hb2 : acc * 10 ≤ acc * 10 * 10 ^ k := Nat.le_mul_of_pos_right _ hp
    rw [zKG]
    unfold Lib.parseUint10
    rw [ht, if_pos (by omega), if_neg (by omega), if_neg (by omega), show 48 + n / 10 ^ k % 10 - 48 = n / 10 ^ k % 10 by omega]
    rw [parse_wide n k _ (by rw [Nat.add_mul]; have : n / 10 ^ k % 10 * 10 ^ k ≤ 9 * 10 ^ k := Nat.mul_le_mul_right _ (by omega); omega)]
    rw [hm, ha, Nat.add_mul, Nat.mul_comm (10 ^ k) (n / 10 ^ k % 10)]
    congr 1
    omega
theorem atoi_wide {n k : Nat} (hk : 1 ≤ k) (h5 : k ≤ 5) (hn : n < 10 ^ k) : Lib.atoiAll (zCH n k) = .ok (n : Int) := by
  obtain ⟨j, rfl⟩ : ∃ j, k = j + 1 := ⟨k - 1, by omega⟩
  have hw := zKG n j
  have hd : n / 10 ^ j % 10 < 10 := Nat.mod_lt _ (by omega)
  have ht : (UInt8.ofNat (48 + n / 10 ^ j % 10)).toNat = 48 + n / 10 ^ j % 10 := by rw [UInt8.toNat_ofNat']; omega
  rw [hw, Lib.atoiAll_plain _ _ (by omega) (by omega), ← hw]
  have hp : 10 ^ (j + 1) ≤ 10 ^ 5 := Nat.pow_le_pow_right (by omega) h5
  have : Lib.parseMag (zCH n (j + 1)) = .ok n := by
    unfold Lib.parseMag
    rw [if_neg (by rw [hw]; simp), parse_wide n (j + 1) 0 (by omega), Nat.zero_mul, Nat.zero_add, Nat.mod_eq_of_lt hn]
  rw [this]
  show (if 9223372036854775808 ≤ n then Lib.NumEnd.range else Lib.NumEnd.ok (n : Int)) = _
  rw [if_neg (by omega)]
theorem parse_bd : ∀ (l : List UInt8) (acc u : Nat), Lib.parseUint10 acc l = .ok u → u < (acc + 1) * 10 ^ l.length
  | [], acc, u, h => by simp [Lib.parseUint10] at h; subst h; simp
  | c :: r, acc, u, h => by
    unfold Lib.parseUint10 at h
    split at h
    · rename_i hc
      split at h
      · cases h
      · split at h
        · cases h
        · have := parse_bd r _ u h
          refine Nat.lt_of_lt_of_le this ?_
          rw [List.length_cons, Nat.pow_succ, Nat.mul_comm (10 ^ r.length) 10, ← Nat.mul_assoc]
          exact Nat.mul_le_mul_right _ (by omega)
    · cases h
theorem atoi_bd {l : List UInt8} {v : Int} (h : Lib.atoiAll l = .ok v) (hl : l.length ≤ 5) : -100000 ≤ v ∧ v ≤ 100000 := by
  have mag : ∀ (r : List UInt8) u, r.length ≤ 5 → Lib.parseMag r = .ok u → u < 100000 := fun r u hr hu => by
    unfold Lib.parseMag at hu
    split at hu
    · cases hu
    · have h1 := parse_bd r 0 u hu
      have h2 : 10 ^ r.length ≤ 10 ^ 5 := Nat.pow_le_pow_right (by omega) hr
      omega
  cases l with
  | nil => cases h
  | cons c r =>
    simp only [List.length_cons] at hl
    unfold Lib.atoiAll at h
    simp only at h
    split at h
    · cases h
    · cases h
    · rename_i u hu
      have hb : u < 100000 := by
        split at hu
        · exact mag r u (by omega) hu
        · exact mag (c :: r) u (by simp; omega) hu
      split at h
      · cases h
      · split at h
        · cases h
        · simp only [Lib.NumEnd.ok.injEq] at h
          split at h <;> omega
/-- What headIn makes of bytes. -/
def headF (b : List UInt8) : Int × Int := match Lib.atoiAll (b.take 2), Lib.atoiAll ((b.drop 3).take 5) with
  | .ok n, .ok c => (n, c)
  | _, _ => (-1, 0)
theorem head_bd (b : List UInt8) : -100000 ≤ (headF b).1 ∧ (headF b).1 ≤ 100000 ∧ -100000 ≤ (headF b).2 ∧ (headF b).2 ≤ 100000 := by
  unfold headF
  split
  · rename_i n c h1 h2
    have := atoi_bd h1 (by rw [List.length_take]; omega)
    have := atoi_bd h2 (by rw [List.length_take]; omega)
    exact ⟨by omega, by omega, by omega, by omega⟩
  · simp
theorem head_rec {s : List UInt8} (i : Nat) (r : List UInt8) (hs : s.length ≤ 80) : headF (recL s i ++ r) = ((s.length : Int), (chkL s i : Int)) := by
  have e : recL s i ++ r = zCH s.length 2 ++ (45 :: (zCH (chkL s i) 5 ++ (45 :: (s ++ [10]) ++ r))) := by unfold recL; simp
  have e1 : (recL s i ++ r).take 2 = zCH s.length 2 := by rw [e, List.take_left' (zCC _ _)]
  have e2 : ((recL s i ++ r).drop 3).take 5 = zCH (chkL s i) 5 := by
    rw [e, List.drop_append, List.drop_of_length_le (by rw [zCC]; omega), zCC, List.nil_append]
    show (zCH (chkL s i) 5 ++ _).take 5 = _
    rw [List.take_left' (zCC _ _)]
  unfold headF
  rw [e1, e2, atoi_wide (by omega) (by omega) (by omega), atoi_wide (by omega) (by omega) (Nat.lt_of_lt_of_le (zQO s i) (by omega))]
/-- Whether a record is read. -/
theorem rec_read {b : List UInt8} {i : Nat} {s : List UInt8} (h : recAt b i = some s) : headF b = ((s.length : Int), (chkL s i : Int)) ∧ s.length ≤ 80 ∧ 10 + s.length ≤ b.length ∧ (b.drop 9).take s.length = s ∧ b.take (10 + s.length) = recL s i := by
  obtain ⟨hs, r, rfl⟩ := recAt_some h
  refine ⟨head_rec i r hs, hs, ?_, rec_drop s i r, ?_⟩
  · rw [List.length_append, zLh]; omega
  · rw [List.take_left' (zLh s i)]
theorem rec_none {b : List UInt8} {i n : Nat} (h : recAt b i = none) (hn : n ≤ 80) (hb : 10 + n ≤ b.length) : recL ((b.drop 9).take n) i ≠ b.take (10 + n) := fun e => by
  have hl : ((b.drop 9).take n).length = n := by rw [List.length_take, List.length_drop]; omega
  have := recAt_rec (s := (b.drop 9).take n) i (b.drop (10 + n)) (by omega)
  rw [e, List.take_append_drop] at this
  rw [h] at this
  cases this
/-- The records that are read, with their ends. -/
def recsE (b : List UInt8) : Nat → Nat → Nat → List (List UInt8 × Nat)
  | 0, _, _ => []
  | k + 1, at_, i => match recAt (b.drop at_) i with
    | none => []
    | some s => (s, at_ + 10 + s.length) :: recsE b k (at_ + 10 + s.length) (i + 1)
theorem recs_map (b : List UInt8) : ∀ (k at_ i : Nat), (recsE b k at_ i).map Prod.fst = readL k (b.drop at_) i
  | 0, _, _ => rfl
  | k + 1, at_, i => by
    unfold recsE
    cases h : recAt (b.drop at_) i with
    | none => rw [readL_none h]; rfl
    | some s =>
      rw [readL_cons h, List.drop_drop]
      show s :: (recsE b k (at_ + 10 + s.length) (i + 1)).map Prod.fst = _
      rw [recs_map b k, show at_ + (10 + s.length) = at_ + 10 + s.length by omega]
theorem recs_none {b : List UInt8} {at_ i : Nat} (h : recAt (b.drop at_) i = none) (k : Nat) : recsE b k at_ i = [] := by
  cases k with
  | zero => rfl
  | succ k => unfold recsE; rw [h]
theorem recs_some {b s : List UInt8} {at_ i : Nat} (h : recAt (b.drop at_) i = some s) (k : Nat) : recsE b (k + 1) at_ i = (s, at_ + 10 + s.length) :: recsE b k (at_ + 10 + s.length) (i + 1) := by
  conv => lhs; unfold recsE
  rw [h]
theorem rec_short {b : List UInt8} {i : Nat} (h : b.length ≤ 9) : recAt b i = none := by
  cases e : recAt b i with
  | none => rfl
  | some s => have := (rec_read e).2.2.1; omega
theorem read_len : ∀ (k : Nat) (b : List UInt8) (i : Nat), (readL k b i).length ≤ k
  | 0, _, _ => by simp [readL]
  | k + 1, b, i => by
    cases h : recAt b i with
    | none => rw [readL_none h]; simp
    | some s => rw [readL_cons h, List.length_cons]; exact Nat.succ_le_succ (read_len k _ _)
theorem read_take : ∀ (m k : Nat) (b : List UInt8) (i : Nat), m ≤ k → (readL k b i).take m = readL m b i
  | 0, _, _, _, _ => by simp [readL]
  | m + 1, 0, _, _, h => absurd h (by omega)
  | m + 1, k + 1, b, i, h => by
    cases e : recAt b i with
    | none => rw [readL_none e, readL_none e]; rfl
    | some s => rw [readL_cons e, readL_cons e, List.take_succ_cons, read_take m k _ _ (by omega)]
/-- Where the last of the records ends. -/
def endE (p : List (List UInt8 × Nat)) : Nat := (p.getLast?.map Prod.snd).getD 0
theorem endE_snoc (p : List (List UInt8 × Nat)) (x : List UInt8 × Nat) : endE (p ++ [x]) = x.2 := by simp [endE]
theorem recs_end (b : List UInt8) : ∀ (k at_ i : Nat) (p r : List (List UInt8 × Nat)), recsE b k at_ i = p ++ r → p ≠ [] → endE p = at_ + zIe (p.map Prod.fst)
  | 0, _, _, p, r, h, hp => by
    have : p = [] := (List.append_eq_nil_iff.1 (h.symm.trans (by rfl))).1
    exact absurd this hp
  | k + 1, at_, i, p, r, h, hp => by
    cases e : recAt (b.drop at_) i with
    | none =>
      rw [recs_none e] at h
      exact absurd (List.append_eq_nil_iff.1 h.symm).1 hp
    | some s =>
      rw [recs_some e] at h
      cases p with
      | nil => exact absurd rfl hp
      | cons x p =>
        simp only [List.cons_append, List.cons.injEq] at h
        obtain ⟨rfl, h⟩ := h
        by_cases hq : p = []
        · subst hq; simp [endE, zIe]; omega
        · have := recs_end b k _ _ p r h hq
          have e2 : endE ((s, at_ + 10 + s.length) :: p) = endE p := by
            unfold endE; rw [List.getLast?_cons]
            cases hl : p.getLast? with
            | none => rw [List.getLast?_eq_none_iff] at hl; exact absurd hl hq
            | some y => rfl
          rw [e2, this, List.map_cons]
          show _ = at_ + (10 + s.length + zIe _)
          omega
theorem recs_end0 {b : List UInt8} {k : Nat} {p r : List (List UInt8 × Nat)} (h : recsE b k 0 0 = p ++ r) : endE p = zIe (p.map Prod.fst) := by
  by_cases hp : p = []
  · subst hp; rfl
  · rw [recs_end b k 0 0 p r h hp, Nat.zero_add]
theorem whole_is : ∀ (l : List (List UInt8)) (k j : Nat), j ≤ l.length → zIe (l.take j) ≤ k → (∀ h : j < l.length, k < zIe (l.take j) + (10 + (l[j]).length)) → wholeL l k = (j, zIe (l.take j))
  | [], k, j, hj, _, _ => by
    obtain rfl : j = 0 := by simpa using hj
    rfl
  | s :: l, k, 0, _, _, h => by
    have := h (by simp)
    simp only [List.take_zero, zIe, List.getElem_cons_zero] at this
    unfold wholeL
    rw [if_neg (by omega)]
    rfl
  | s :: l, k, j + 1, hj, hs, h => by
    simp only [List.take_succ_cons, zIe, List.length_cons] at hs hj
    have ih := whole_is l (k - (10 + s.length)) j (by omega) (by omega) (fun hh => by
      have := h (by simp; omega)
      simp only [List.take_succ_cons, zIe, List.getElem_cons_succ] at this
      omega)
    unfold wholeL
    rw [if_pos (by omega), ih]
    simp only [List.take_succ_cons, zIe]
end Go.Proofs.YticjeianiahppaaGreatDoor
