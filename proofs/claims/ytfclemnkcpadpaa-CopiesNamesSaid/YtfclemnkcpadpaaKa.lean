/- copies: posts ar plain data; the hour from which one is awake; the hours of a copy. -/
import Derived.Test.YtfclemnkcpadpaaBase
namespace Go.Proofs.Ytfclemnkcpadpaa
set_option linter.unusedVariables false
set_option linter.unusedSimpArgs false
set_option linter.unnecessarySimpa false
open Go.RowKit Go.Flow

structure Leg where
  lo : Int
  hi : Int
  asl : List (Int × Int)
structure Route where
  legs : List Leg
  lossy : Bool
structure Post where
  sends : List Int
  routes : List Route
  pat : Int

def legVal (ar : Option Addr) (c : Nat) (l : Leg) : Value := .agg #[.int .i64 l.lo, .int .i64 l.hi, .slice ar l.asl.length c]
def routeVal (al : Option Addr) (c : Nat) (r : Route) : Value := .agg #[.slice al r.legs.length c, .bool r.lossy]
def postVal (a : Option Addr) (c : Nat) (ar : Option Addr) (cr : Nat) (p : Post) : Value := .agg #[.slice a p.sends.length c, .slice ar p.routes.length cr, .int .i64 p.pat]

def LegsAt (w : World) (a : Option Addr) (ls : List Leg) : Prop :=
  ∀ k (h : k < ls.length), ∃ b off ar c, a = some ⟨b, off, none⟩ ∧ b < w.heap.size ∧ w.cell? ⟨b, off + k * 3, none⟩ = some (.int .i64 ls[k].lo) ∧ w.cell? ⟨b, off + k * 3 + 1, none⟩ = some (.int .i64 ls[k].hi) ∧ w.cell? ⟨b, off + k * 3 + 2, none⟩ = some (.slice ar ls[k].asl.length c) ∧ Recs2At w ar ls[k].asl
theorem LegsAt.below {w w' : World} {a : Option Addr} {ls : List Leg} (h : LegsAt w a ls) (hb : Below w.heap.size w w') : LegsAt w' a ls := fun k hk =>
  let ⟨b, off, ar, c, ha, hlt, h0, h1, h2, h3⟩ := h k hk
  ⟨b, off, ar, c, ha, Nat.lt_of_lt_of_le hlt hb.size, (hb.cell (p := ⟨b, _, none⟩) hlt).trans h0, (hb.cell (p := ⟨b, _, none⟩) hlt).trans h1, (hb.cell (p := ⟨b, _, none⟩) hlt).trans h2, h3.below hb⟩
theorem LegsAt.nil (w : World) (a : Option Addr) : LegsAt w a [] := fun k hk => absurd hk (Nat.not_lt_zero k)
def RoutesAt (w : World) (a : Option Addr) (rs : List Route) : Prop :=
  ∀ k (h : k < rs.length), ∃ b off al c, a = some ⟨b, off, none⟩ ∧ b < w.heap.size ∧ w.cell? ⟨b, off + k * 2, none⟩ = some (.slice al rs[k].legs.length c) ∧ w.cell? ⟨b, off + k * 2 + 1, none⟩ = some (.bool rs[k].lossy) ∧ LegsAt w al rs[k].legs
theorem RoutesAt.below {w w' : World} {a : Option Addr} {rs : List Route} (h : RoutesAt w a rs) (hb : Below w.heap.size w w') : RoutesAt w' a rs := fun k hk =>
  let ⟨b, off, al, c, ha, hlt, h0, h1, h2⟩ := h k hk
  ⟨b, off, al, c, ha, Nat.lt_of_lt_of_le hlt hb.size, (hb.cell (p := ⟨b, _, none⟩) hlt).trans h0, (hb.cell (p := ⟨b, _, none⟩) hlt).trans h1, h2.below hb⟩
theorem RoutesAt.nil (w : World) (a : Option Addr) : RoutesAt w a [] := fun k hk => absurd hk (Nat.not_lt_zero k)

/-! ### plain -/
def inR (n : Int) (r : Int × Int) : Bool := decide (r.1 ≤ n) && decide (n ≤ r.2)
def uptoB (r : Int × Int) (m : Int) : Bool := decide (0 ≤ r.1) && decide (r.1 ≤ r.2) && decide (r.2 ≤ m)
def asleepB (l : Leg) (h : Int) : Bool := l.asl.any (inR h)
def legOk (l : Leg) : Bool := uptoB (l.lo, l.hi) 6 && l.asl.all (fun r => uptoB r 30)
def routeOk (r : Route) : Bool := decide (0 < r.legs.length) && r.legs.all legOk
def routeFew (r : Route) : Bool := decide (r.legs.length ≤ 3) && r.legs.all (fun l => decide (l.asl.length ≤ 2))
/-- Numbers that rise. -/
def risesB : List Int → Bool
  | [] => true
  | [_] => true
  | a :: b :: l => decide (a < b) && risesB (b :: l)
def postErr (p : Post) : Int :=
  if 4 < p.sends.length ∨ 3 < p.routes.length ∨ p.routes.all routeFew = false then 3
  else if p.sends = [] ∨ p.routes = [] ∨ inR p.pat (0, 30) = false ∨ p.sends.all (fun n => inR n (0, 30)) = false ∨ risesB p.sends = false ∨ p.routes.all routeOk = false then 1
  else 0

/-- The first hour, from one on, at which nobody sleeps: at most n steps. -/
def awkN (l : Leg) : Nat → Int → Int
  | 0, h => h
  | n + 1, h => if asleepB l h then awkN l n (h + 1) else h
def awk (l : Leg) (h : Int) : Int := awkN l (31 - h).toNat h
theorem asleep_le {l : Leg} (hl : l.asl.all (fun r => uptoB r 30) = true) {h : Int} (ha : asleepB l h = true) : 0 ≤ h ∧ h ≤ 30 := by
  simp only [asleepB, List.any_eq_true, inR, Bool.and_eq_true, decide_eq_true_eq] at ha
  obtain ⟨r, hr, h1, h2⟩ := ha
  have := List.all_eq_true.1 hl r hr
  simp only [uptoB, Bool.and_eq_true, decide_eq_true_eq] at this
  omega
theorem awk_sleep {l : Leg} (hl : l.asl.all (fun r => uptoB r 30) = true) {h : Int} (ha : asleepB l h = true) : awk l h = awk l (h + 1) := by
  have := asleep_le hl ha
  unfold awk
  rw [show (31 - h).toNat = (31 - (h + 1)).toNat + 1 by omega]
  simp only [awkN, ha, if_true]
theorem awk_up {l : Leg} {h : Int} (ha : asleepB l h = false) : awk l h = h := by
  unfold awk
  cases (31 - h).toNat with
  | zero => rfl
  | succ n => simp [awkN, ha]
theorem awkN_bd (l : Leg) : ∀ (n : Nat) (h : Int), h ≤ awkN l n h ∧ awkN l n h ≤ h + n
  | 0, h => by simp [awkN]
  | n + 1, h => by
    have := awkN_bd l n (h + 1)
    simp only [awkN]
    split <;> omega
theorem awk_bd (l : Leg) (h : Int) : h ≤ awk l h ∧ (awk l h ≤ h ∨ awk l h ≤ 31) := by
  have := awkN_bd l (31 - h).toNat h
  unfold awk
  omega
/-- Nobody sleeps at it. -/
theorem awkN_awake (l : Leg) (hl : l.asl.all (fun r => uptoB r 30) = true) : ∀ (n : Nat) (h : Int), 31 - h ≤ n → asleepB l (awkN l n h) = false
  | 0, h, hn => by
    simp only [awkN]
    cases ha : asleepB l h with
    | false => rfl
    | true => have := asleep_le hl ha; omega
  | n + 1, h, hn => by
    simp only [awkN]
    cases ha : asleepB l h with
    | false => simp [ha]
    | true => simpa using awkN_awake l hl n (h + 1) (by omega)
theorem awk_awake {l : Leg} (hl : l.asl.all (fun r => uptoB r 30) = true) (h : Int) : asleepB l (awk l h) = false := awkN_awake l hl _ h (by omega)

/-- A set of hours, and what a leg makes of it. -/
abbrev Hrs := Nat → Bool
def oneHr (s : Int) : Hrs := fun n => decide ((n : Int) = s)
def legHr (l : Leg) (S : Hrs) : Hrs := fun m => (List.range 101).any fun h => S h && (List.range (l.hi - l.lo + 1).toNat).any fun n => decide (awk l (h + l.lo + n) = m)
def routeHr (ls : List Leg) (s : Int) : Hrs := ls.foldl (fun S l => legHr l S) (oneHr s)
/-- Its hours lie at or below one. -/
def HrsLe (S : Hrs) (m : Nat) : Prop := ∀ n, S n = true → n ≤ m
theorem legHr_le {l : Leg} {S : Hrs} {m : Nat} (hl : legOk l = true) (hS : HrsLe S m) (hm : 30 ≤ m) : HrsLe (legHr l S) (m + 6) := fun n hn => by
  simp only [legOk, uptoB, Bool.and_eq_true, decide_eq_true_eq] at hl
  simp only [legHr, List.any_eq_true, Bool.and_eq_true, decide_eq_true_eq, List.mem_range] at hn
  obtain ⟨h, h1, h2, k, h3, h4⟩ := hn
  have := hS h h2
  have := awk_bd l (h + l.lo + k)
  omega
theorem legHr_ne {l : Leg} {S : Hrs} {m : Nat} (hl : legOk l = true) (hS : HrsLe S m) (hm : m ≤ 94) (hm2 : 30 ≤ m) (hne : ∃ n, S n = true) : ∃ n, legHr l S n = true := by
  obtain ⟨n, hn⟩ := hne
  have h1 := hS n hn
  simp only [legOk, uptoB, Bool.and_eq_true, decide_eq_true_eq] at hl
  have := awk_bd l (n + l.lo + (0 : Nat))
  refine ⟨(awk l (n + l.lo + (0 : Nat))).toNat, ?_⟩
  simp only [legHr, List.any_eq_true, Bool.and_eq_true, decide_eq_true_eq, List.mem_range]
  exact ⟨n, by omega, hn, 0, by omega, by omega⟩
theorem routeHr_go : ∀ (ls : List Leg) (S : Hrs) (m : Nat), ls.all legOk = true → HrsLe S m → 30 ≤ m → m + 6 * ls.length ≤ 94 → (∃ n, S n = true) →
    HrsLe (ls.foldl (fun S l => legHr l S) S) (m + 6 * ls.length) ∧ ∃ n, ls.foldl (fun S l => legHr l S) S n = true
  | [], S, m, _, hS, _, _, hne => ⟨by simpa using hS, hne⟩
  | l :: ls, S, m, hall, hS, hm, hb, hne => by
    simp only [List.all_cons, Bool.and_eq_true] at hall
    simp only [List.length_cons] at hb
    have := routeHr_go ls (legHr l S) (m + 6) hall.2 (legHr_le hall.1 hS hm) (by omega) (by omega) (legHr_ne hall.1 hS (by omega) hm hne)
    simp only [List.foldl_cons, List.length_cons]
    rw [show m + 6 * (ls.length + 1) = m + 6 + 6 * ls.length by omega]
    exact this
theorem routeHr_ok {r : Route} (h1 : routeFew r = true) (h2 : routeOk r = true) {s : Int} (hs : 0 ≤ s ∧ s ≤ 30) : HrsLe (routeHr r.legs s) 48 ∧ ∃ n, routeHr r.legs s n = true := by
  simp only [routeFew, routeOk, Bool.and_eq_true, decide_eq_true_eq] at h1 h2
  have := routeHr_go r.legs (oneHr s) 30 h2.2 (fun n hn => by simp [oneHr] at hn; omega) (by omega) (by omega) ⟨s.toNat, by simp [oneHr]; omega⟩
  refine ⟨fun n hn => ?_, this.2⟩
  have := this.1 n hn
  omega
/-- The hours in order; the first, the last one. -/
def hrList (S : Hrs) : List Int := ((List.range 101).filter S).map (fun (n : Nat) => (n : Int))
end Go.Proofs.Ytfclemnkcpadpaa
