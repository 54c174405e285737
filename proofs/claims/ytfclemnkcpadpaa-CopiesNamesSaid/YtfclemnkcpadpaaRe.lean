/- copies: short; Fault, fault -/
import Derived.Test.YtfclemnkcpadpaaRd
namespace Go.Proofs.Ytfclemnkcpadpaa
set_option linter.unusedVariables false
set_option linter.unusedSimpArgs false
set_option linter.unnecessarySimpa false
open Go.RowKit Go.Flow

def rowsShort (l : List (List Int)) : Bool := decide (l.length ≤ 6) && l.all (fun t => decide (t.length ≤ 6))
def shortB (t : List (List (List Int))) : Bool := decide (t.length ≤ 7) && t.all rowsShort
theorem shortB_r {t : List (List (List Int))} {k : Nat} (h : k < t.length) (hp : rowsShort t[k] = false) : shortB t = false := by
  unfold shortB; rw [all_false_at h hp, Bool.and_false]
theorem rowsShort_l {l : List (List Int)} {k : Nat} (h : k < l.length) (hp : ¬ l[k].length ≤ 6) : rowsShort l = false := by
  unfold rowsShort; rw [all_false_at h (by simpa using hp), Bool.and_false]
structure TruthTiny (t : List (List (List Int))) : Prop where
  a : t.length ≤ 9223372036854775807
  b : ∀ l ∈ t, l.length ≤ 9223372036854775807
  c : ∀ l ∈ t, ∀ x ∈ l, x.length ≤ 9223372036854775807
set_option maxHeartbeats 2000000 in
theorem short_any (at_ : Option Addr) (t : List (List (List Int))) (ct : Nat) (w : World) (ht : TruthAt w at_ t) (sm : TruthTiny t) :
    Calls Try.prog 18 #[.slice at_ t.length ct] w fun e w' => e = .returned (.bool (shortB t)) ∧ Below w.heap.size w w' := by
  have la := sm.a
  obtain ⟨B, hB⟩ : ∃ B, shortB t = B := ⟨_, rfl⟩
  rw [hB]
  have HB := Lib.hid hB
  clear hB
  by_cases h7 : 7 < t.length
  · have h7I : (7 : Int) < (t.length : Int) := by omega
    obtain rfl : B = false := by rw [← HB.out]; unfold shortB; rw [decide_eq_false (by omega)]; rfl
    clear HB
    go_enter Try.func18, Try.ntmps18
    go_wp2
    go_ret
    exact ⟨rfl, Below.refl _ _⟩
  have h7I : ¬ (7 : Int) < (t.length : Int) := by omega
  have HT : Hid (t.all rowsShort = true → B = true) := Lib.hid (fun h => by rw [← HB.out]; unfold shortB; rw [h, decide_eq_true (by omega)]; rfl)
  have HF : Hid (∀ k (h : k < t.length), rowsShort t[k] = false → B = false) := Lib.hid (fun k h hp => by rw [← HB.out]; exact shortB_r h hp)
  clear HB
  go_enter Try.func18, Try.ntmps18
  go_wp2
  go_loopw [3] (fun o wr => ∃ k : Nat, k ≤ t.length ∧ o = .int .i64 k ∧ (t.take k).all rowsShort = true ∧ wr = w) (fun o _ => t.length - (intOf o).toNat)
  case atStart => exact ⟨0, Nat.zero_le _, rfl, rfl, rfl⟩
  case round =>
    obtain ⟨k, hk, rfl, hp, rfl⟩ := hrel
    have Hp := Lib.hid hp
    clear hp
    by_cases hkl : k < t.length
    · obtain ⟨b4, off4, al, ca, rfl, hbl4, e0, eL, _⟩ := ht k hkl
      have hlb := sm.b t[k] (List.getElem_mem hkl)
      have hlc := sm.c t[k] (List.getElem_mem hkl)
      have HFk := Lib.hid (HF.out k hkl)
      have HTk : Hid (rowsShort t[k] = true → (t.take (k + 1)).all rowsShort = true) := Lib.hid (fun h => all_take_succ hkl Hp.out h)
      obtain ⟨l, hl⟩ : ∃ l, t[k] = l := ⟨_, rfl⟩
      rw [hl] at e0 eL hlb hlc HFk HTk
      clear hl
      have hkI : (k : Int) < (t.length : Int) := by omega
      by_cases hl6 : 6 < l.length
      · have hl6I : (6 : Int) < (l.length : Int) := by omega
        obtain rfl : B = false := HFk.out (by unfold rowsShort; rw [decide_eq_false (by omega)]; rfl)
        clear HFk HTk HF HT
        go_wp2
        go_ret
        exact ⟨rfl, Below.refl _ _⟩
      · have hl6I : ¬ (6 : Int) < (l.length : Int) := by omega
        go_wp2
        obtain ⟨wo, hwo⟩ : ∃ z : World, z = wr := ⟨_, rfl⟩
        subst hwo
        go_loopw [4] (fun o wr => ∃ j : Nat, j ≤ l.length ∧ o = .int .i64 j ∧ (l.take j).all (fun x => decide (x.length ≤ 6)) = true ∧ wr = wo) (fun o _ => l.length - (intOf o).toNat)
        case atStart => exact ⟨0, Nat.zero_le _, rfl, rfl, rfl⟩
        case round =>
          obtain ⟨j, hj, rfl, hq, rfl⟩ := hrel
          have Hq := Lib.hid hq
          clear hq
          by_cases hjl : j < l.length
          · obtain ⟨b6, off6, ar6, c6, rfl, hbl6, m0, hR6, _⟩ := eL j hjl
            have hjI : (j : Int) < (l.length : Int) := by omega
            have HTj : Hid (l[j].length ≤ 6 → (l.take (j + 1)).all (fun x => decide (x.length ≤ 6)) = true) := Lib.hid (fun h => all_take_succ hjl Hq.out (by simpa using h))
            have HFj : Hid (¬ l[j].length ≤ 6 → rowsShort l = false) := Lib.hid (fun h => rowsShort_l hjl h)
            have hla := hlc _ (List.getElem_mem hjl)
            obtain ⟨n, hn⟩ : ∃ n, l[j].length = n := ⟨_, rfl⟩
            rw [hn] at m0 HTj HFj hla
            clear hn
            by_cases h5 : 6 < n
            · have h5I : (6 : Int) < (n : Int) := by omega
              obtain rfl : B = false := HFk.out (HFj.out (by omega))
              clear HFk HTk HF HT HTj HFj
              go_wp2
              go_ret
              exact ⟨rfl, Below.refl _ _⟩
            · have h5I : ¬ (6 : Int) < (n : Int) := by omega
              go_wp2
              go_roundw
              case rel => exact ⟨j + 1, by omega, by go_num, HTj.out (by omega), by first | rfl | trivial⟩
              case measure => simp [intOf]; omega
          · obtain rfl : j = l.length := by omega
            have ht : rowsShort l = true := by
              unfold rowsShort; rw [decide_eq_true (by omega)]
              exact all_of_take (Nat.le_refl _) Hq.out
            have Ht := Lib.hid ht
            clear ht
            go_wp2
            go_roundw
            case rel => exact ⟨k + 1, by omega, by go_num, HTk.out Ht.out, by first | rfl | trivial⟩
            case measure => simp [intOf]; omega
    · obtain rfl : k = t.length := by omega
      obtain rfl : B = true := HT.out (all_of_take (Nat.le_refl _) Hp.out)
      clear HT HF
      go_wp2
      go_ret
      exact ⟨rfl, Below.refl _ _⟩

/-! ### Fault -/
def badI (g : Bool) : Int := if g then 0 else 1
def risesT (l : List Int) (k : Nat) : Bool := (List.range k).all fun i => decide (i = 0) || decide (l.getD (i - 1) 0 < l.getD i 0)
theorem risesT_succ (l : List Int) (k : Nat) : risesT l (k + 1) = (risesT l k && (decide (k = 0) || decide (l.getD (k - 1) 0 < l.getD k 0))) := by
  simp [risesT, List.range_succ]
theorem risesB_iff : ∀ (l : List Int), risesB l = true ↔ ∀ i, i + 1 < l.length → l.getD i 0 < l.getD (i + 1) 0
  | [] => by simp [risesB]
  | [_] => by simp [risesB]
  | a :: b :: l => by
    simp only [risesB, Bool.and_eq_true, decide_eq_true_eq, risesB_iff (b :: l)]
    constructor
    · rintro ⟨h1, h2⟩ i hi
      cases i with
      | zero => simpa using h1
      | succ i => have := h2 i (by simp at hi ⊢; omega); simpa using this
    · intro h
      refine ⟨by simpa using h 0 (by simp), fun i hi => ?_⟩
      have := h (i + 1) (by simp at hi ⊢; omega)
      simpa using this
theorem risesT_all (l : List Int) : risesT l l.length = risesB l := by
  rw [Bool.eq_iff_iff, risesB_iff]
  unfold risesT
  simp only [List.all_eq_true, List.mem_range, Bool.or_eq_true, decide_eq_true_eq]
  constructor
  · intro h i hi
    have := h (i + 1) hi
    rcases this with e | e
    · omega
    · simpa using e
  · intro h i hi
    cases i with
    | zero => exact .inl rfl
    | succ i => exact .inr (h i hi)
def goodS (g : Bool) (l : List Int) (k : Nat) : Bool := g && (l.take k).all (fun n => inR n (0, 30)) && risesT l k
theorem goodS_succ (g : Bool) (l : List Int) (k : Nat) (h : k < l.length) : goodS g l (k + 1) = (goodS g l k && (inR l[k] (0, 30) && (decide (k = 0) || decide (l.getD (k - 1) 0 < l.getD k 0)))) := by
  unfold goodS
  rw [risesT_succ, List.take_succ_eq_append_getElem h, List.all_append]
  simp only [List.all_cons, List.all_nil, Bool.and_true]
  cases g <;> cases (l.take k).all (fun n => inR n (0, 30)) <;> cases inR l[k] (0, 30) <;> cases risesT l k <;> simp
theorem goodR_succ {α : Type} (g : Bool) (f : α → Bool) (l : List α) (k : Nat) (h : k < l.length) : (g && (l.take (k + 1)).all f) = ((g && (l.take k).all f) && f l[k]) := by
  rw [List.take_succ_eq_append_getElem h, List.all_append]; simp [Bool.and_assoc]
theorem postErr_few {p : Post} (h : p.routes.all routeFew = false) : postErr p = 3 := by unfold postErr; rw [if_pos (.inr (.inr h))]
theorem fault_end {p : Post} (h1 : p.sends.length ≤ 4) (h2 : p.routes.length ≤ 3) (h3 : p.routes.all routeFew = true) :
    postErr p = badI (goodS (decide (p.sends ≠ []) && decide (p.routes ≠ []) && inR p.pat (0, 30)) p.sends p.sends.length && p.routes.all routeOk) := by
  unfold postErr goodS badI
  rw [if_neg (by rw [h3]; simp; omega), risesT_all, List.take_length]
  cases h4 : decide (p.sends ≠ []) <;> cases h5 : decide (p.routes ≠ []) <;> cases h6 : inR p.pat (0, 30) <;> cases h7 : p.sends.all (fun n => inR n (0, 30)) <;> cases h8 : risesB p.sends <;> cases h9 : p.routes.all routeOk <;> simp_all
end Go.Proofs.Ytfclemnkcpadpaa
