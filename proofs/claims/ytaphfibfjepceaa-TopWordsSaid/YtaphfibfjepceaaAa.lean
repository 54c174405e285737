/- pay: accounts as plain data · pay: slices.IndexFunc, ContainsFunc, and all, over ints and dispatches · pay: tests of accounts; CheckAccount · pay: CheckAccount -/
import Derived.Test.YtaphfibfjepceaaBase
import Derived.Test.YtaphfibfjepceaaOwn
import Derived.Test.YtaphfibfjepceaaCel
import Derived.Test.YtaphfibfjepceaaFlo
namespace Go.Proofs.Ytaphfibfjepceaa
set_option linter.unusedVariables false
set_option linter.unusedSimpArgs false
set_option linter.unnecessarySimpa false
open Go.RowKit Go.Flow

structure Dis where
  payer : Int
  lo : Int
  hi : Int
  passed : List Int
structure Acc where
  st : Int
  rate : Int
  keeps : Int
  ds : List Dis

/-- A list with room behind it. -/
structure PassAt (w : World) (a : Option Addr) (c : Nat) (l : List Int) : Prop where
  at_ : IntsAt w a l
  le : l.length ≤ c
  nil : a = none → c = 0
theorem PassAt.below {w w' : World} {a : Option Addr} {c : Nat} {l : List Int} (h : PassAt w a c l) (hb : Below w.heap.size w w') : PassAt w' a c l := ⟨h.at_.below hb, h.le, h.nil⟩
def DisAt (w : World) (a : Option Addr) (ds : List Dis) : Prop :=
  ∀ k (h : k < ds.length), ∃ b off al c, a = some ⟨b, off, none⟩ ∧ b < w.heap.size ∧ w.cell? ⟨b, off + k * 4, none⟩ = some (.int .i64 ds[k].payer) ∧ w.cell? ⟨b, off + k * 4 + 1, none⟩ = some (.int .i64 ds[k].lo) ∧ w.cell? ⟨b, off + k * 4 + 2, none⟩ = some (.int .i64 ds[k].hi) ∧ w.cell? ⟨b, off + k * 4 + 3, none⟩ = some (.slice al ds[k].passed.length c) ∧ PassAt w al c ds[k].passed
theorem DisAt.below {w w' : World} {a : Option Addr} {ds : List Dis} (h : DisAt w a ds) (hb : Below w.heap.size w w') : DisAt w' a ds := fun k hk =>
  let ⟨b, off, al, c, ha, hlt, h0, h1, h2, h3, h4⟩ := h k hk
  ⟨b, off, al, c, ha, Nat.lt_of_lt_of_le hlt hb.size, (hb.cell (p := ⟨b, _, none⟩) hlt).trans h0, (hb.cell (p := ⟨b, _, none⟩) hlt).trans h1, (hb.cell (p := ⟨b, _, none⟩) hlt).trans h2, (hb.cell (p := ⟨b, _, none⟩) hlt).trans h3, h4.below hb⟩
theorem DisAt.nil (w : World) (a : Option Addr) : DisAt w a [] := fun k hk => absurd hk (Nat.not_lt_zero k)

/-! ### plain -/
def inR (n lo hi : Int) : Bool := decide (lo ≤ n) && decide (n ≤ hi)
theorem inR_iff {n lo hi : Int} : inR n lo hi = true ↔ lo ≤ n ∧ n ≤ hi := by simp [inR]
def fewB (d : Dis) : Bool := decide (d.passed.length ≤ 5)
/-- Stations that are stations, none of them twice. -/
def onceB (st : Int) (l : List Int) : Bool := (List.range l.length).all fun k => inR (l.getD k 0) 0 (st - 1) && !(l.take k).contains (l.getD k 0)
def disB (st : Int) (d : Dis) : Bool := onceB st d.passed && inR d.payer 0 (st - 1) && decide (1 ≤ d.lo) && decide (d.lo ≤ d.hi) && decide (d.hi ≤ 200) && decide (0 < d.passed.length)
def accErr (a : Acc) : Int :=
  if 7 < a.st ∨ 6 < a.ds.length ∨ a.ds.all fewB = false then 3
  else if a.st < 1 ∨ inR a.rate 0 20 = false ∨ inR a.keeps 0 100 = false ∨ a.ds.all (disB a.st) = false then 1
  else 0
theorem accErr_bd (a : Acc) : 0 ≤ accErr a ∧ accErr a ≤ 3 := by unfold accErr; (repeat' split) <;> omega
structure AccOk (a : Acc) : Prop where
  st : 1 ≤ a.st ∧ a.st ≤ 7
  rate : 0 ≤ a.rate ∧ a.rate ≤ 20
  keeps : 0 ≤ a.keeps ∧ a.keeps ≤ 100
  len : a.ds.length ≤ 6
  few : ∀ d ∈ a.ds, d.passed.length ≤ 5
  dis : ∀ d ∈ a.ds, disB a.st d = true
theorem accErr_ok {a : Acc} (h : accErr a = 0) : AccOk a := by
  unfold accErr at h
  split at h
  · omega
  · rename_i h1
    split at h
    · omega
    · rename_i h2
      simp only [not_or, Bool.not_eq_false] at h1 h2
      obtain ⟨a1, a2, a3⟩ := h1
      obtain ⟨b1, b2, b3, b4⟩ := h2
      rw [inR_iff] at b2 b3
      rw [List.all_eq_true] at a3 b4
      exact ⟨by omega, b2, b3, by omega, fun d hd => by simpa [fewB] using a3 d hd, b4⟩
structure DisOk (st : Int) (d : Dis) : Prop where
  payer : 0 ≤ d.payer ∧ d.payer < st
  lo : 1 ≤ d.lo
  le : d.lo ≤ d.hi
  hi : d.hi ≤ 200
  pos : 0 < d.passed.length
  in_ : ∀ s ∈ d.passed, 0 ≤ s ∧ s < st
  nd : d.passed.Nodup
theorem onceB_iff {st : Int} {l : List Int} : onceB st l = true ↔ (∀ s ∈ l, 0 ≤ s ∧ s < st) ∧ l.Nodup := by
  unfold onceB
  rw [List.all_eq_true]
  constructor
  · intro h
    refine ⟨fun s hs => ?_, ?_⟩
    · obtain ⟨k, hk, rfl⟩ := List.getElem_of_mem hs
      have := h k (by simpa using hk)
      simp only [Bool.and_eq_true, inR_iff] at this
      have e : l.getD k 0 = l[k] := by simp [hk]
      rw [e] at this
      omega
    · rw [List.nodup_iff_pairwise_ne, List.pairwise_iff_getElem]
      intro i j hi hj hij e
      have := h j (by simpa using hj)
      simp only [Bool.and_eq_true, Bool.not_eq_true'] at this
      have e2 : l.getD j 0 = l[j] := by simp [hj]
      rw [e2, List.contains_eq_any_beq, List.any_eq_false] at this
      exact this.2 l[i] (List.mem_iff_getElem.2 ⟨i, by simp; omega, by simp⟩) (by simp [e])
  · rintro ⟨h1, h2⟩ k hk
    have hk' : k < l.length := by simpa using hk
    have e : l.getD k 0 = l[k] := by simp [hk']
    rw [e]
    simp only [Bool.and_eq_true, inR_iff, Bool.not_eq_true', List.contains_eq_any_beq, List.any_eq_false]
    refine ⟨by have := h1 _ (List.getElem_mem hk'); omega, fun x hx => ?_⟩
    obtain ⟨i, hi, rfl⟩ := List.getElem_of_mem hx
    simp only [List.length_take] at hi
    rw [List.getElem_take]
    intro e
    have e : l[k] = l[i] := by simpa using e
    have := List.nodup_iff_pairwise_ne.1 h2
    exact List.pairwise_iff_getElem.1 this i k (by omega) hk' (by omega) e.symm
theorem disB_ok {st : Int} {d : Dis} (h : disB st d = true) : DisOk st d := by
  unfold disB at h
  simp only [Bool.and_eq_true, inR_iff, decide_eq_true_eq] at h
  obtain ⟨⟨⟨⟨⟨h1, h2⟩, h3⟩, h4⟩, h5⟩, h6⟩ := h
  obtain ⟨h7, h8⟩ := onceB_iff.1 h1
  exact ⟨by omega, h3, h4, h5, h6, h7, h8⟩

/-! ### shares -/
def priceF (rate n : Int) : Int := n * rate
def keptF (rate keeps n : Int) : Int := n * rate * keeps / 100
/-- The shares of k stations: each its part, the first one what it keeps, the last ones a penny of what remains. -/
def sharesF (rate keeps : Int) (k : Nat) (n : Int) : List Int :=
  (List.range k).map fun (i : Nat) => (n * rate - keptF rate keeps n) / (k : Int) + (if i = 0 then keptF rate keeps n else 0) + (if (k : Int) - (n * rate - keptF rate keeps n) % (k : Int) ≤ (i : Int) then 1 else 0)
theorem sharesF_len (rate keeps : Int) (k : Nat) (n : Int) : (sharesF rate keeps k n).length = k := by simp [sharesF]
/-- By how much a dispatch with so many words changes the balance of a station. -/
def changeF (a : Acc) (d : Dis) (n s : Int) : Int :=
  (if d.payer = s then - (n * a.rate) else 0) + (match d.passed.idxOf? s with
    | some i => (sharesF a.rate a.keeps d.passed.length n).getD i 0
    | none => 0)
def balanceF (a : Acc) (t : List Int) (s : Int) : Int := ((a.ds.zip t).map fun x => changeF a x.1 x.2 s).sum
def truthB (a : Acc) (t : List Int) : Bool := decide (t.length = a.ds.length) && (a.ds.zip t).all fun x => inR x.2 x.1.lo x.1.hi
end Go.Proofs.Ytaphfibfjepceaa

namespace Go.Proofs.Ytaphfibfjepceaa
set_option linter.unusedVariables false
set_option linter.unusedSimpArgs false
set_option linter.unnecessarySimpa false
open Go.RowKit Go.Flow

set_option maxRecDepth 100000 in
set_option maxHeartbeats 400000 in
theorem indexFunc_int (a : Option Addr) (xs : List Int) (c : Nat) (g : FuncId) (first cap : Array Value) (p : Int → Bool) (w : World) (hl : xs.length ≤ 9223372036854775807) (hx : IntsAt w a xs)
    (hg : ∀ args w, Sem.run Try.prog (callFunc g args) w = .ok (.enter g args) w) (hp : ∀ x ∈ xs, Meets Try.prog w g first cap (.int .i64 x) (p x)) :
    Calls Try.prog 74 #[.slice a xs.length c, .func (.func g) first cap] w fun e w' => e = .returned (.int .i64 (idxBy p xs 0)) ∧ Below w.heap.size w w' := by
  go_enter Try.func74, Try.ntmps74
  go_wp2
  go_loopw [5, 8] (fun _ i wr => ∃ k : Nat, k ≤ xs.length ∧ i = .int .i64 k ∧ Below w.heap.size w wr ∧ idxBy p xs 0 = idxBy p (xs.drop k) k) (fun _ i _ => xs.length - (intOf i).toNat)
  case atStart => exact ⟨0, Nat.zero_le _, rfl, Below.refl _ _, by simp⟩
  case round =>
    obtain ⟨k, hk, rfl, hb, hi⟩ := hrel
    have Hi := Lib.hid hi
    clear hi
    by_cases hlt : k < xs.length
    · obtain ⟨b, off, rfl, hbl, hc⟩ := hx k hlt
      have hm := hp xs[k] (List.getElem_mem hlt)
      have hc' : wr.cell? ⟨b, off + k, none⟩ = some (.int .i64 (xs.getD k 0)) := (hb.cell (p := ⟨b, off + k, none⟩) hbl).trans hc
      clear hc
      go_wp2_with (refine (hm wr hb).mono ?_; rintro e w1 ⟨rfl, hb1⟩)
      · have h1 : p xs[k] = true := by assumption
        go_ret
        exact ⟨by rw [Hi.out, idxBy_hit p xs k hlt h1]; rfl, hb.trans (hb1.mono hb.size)⟩
      · have h1 : p xs[k] = false := by assumption
        go_roundw
        case rel => exact ⟨k + 1, by omega, by go_num, hb.trans (hb1.mono hb.size), by rw [Hi.out, idxBy_miss p xs k hlt h1]⟩
        case measure => simp [intOf]; omega
    · go_wp2
      go_ret
      exact ⟨by rw [Hi.out, idxBy_end p xs k k (by omega)]; rfl, hb⟩

set_option maxHeartbeats 400000 in
theorem containsFunc_int (a : Option Addr) (xs : List Int) (c : Nat) (g : FuncId) (first cap : Array Value) (p : Int → Bool) (w : World) (hl : xs.length ≤ 9223372036854775807) (hx : IntsAt w a xs)
    (hg : ∀ args w, Sem.run Try.prog (callFunc g args) w = .ok (.enter g args) w) (hp : ∀ x ∈ xs, Meets Try.prog w g first cap (.int .i64 x) (p x)) :
    Calls Try.prog 62 #[.slice a xs.length c, .func (.func g) first cap] w fun e w' => e = .returned (.bool (xs.any p)) ∧ Below w.heap.size w w' := by
  rw [← idxBy_any p xs 0]
  have hi := idxBy_le p xs 0
  go_enter Try.func62, Try.ntmps62
  go_wp2_with (go_at_call 74; refine (indexFunc_int a xs c g first cap p w hl hx hg hp).mono ?_; rintro e w1 ⟨rfl, hb1⟩; obtain ⟨hc1, hf1, hz1⟩ := bcell hb1; (try simp at hz1); (try (have hy0 : w.heap.size < w1.heap.size := by omega)); (try (have hy1 : w.heap.size + 1 < w1.heap.size := by omega)); (try (have hy2 : w.heap.size + 2 < w1.heap.size := by omega)))
  go_ret
  exact ⟨rfl, hb1⟩

set_option maxRecDepth 100000 in
set_option maxHeartbeats 400000 in
theorem indexFunc_dis (a : Option Addr) (xs : List Dis) (c : Nat) (g : FuncId) (first cap : Array Value) (p : Dis → Bool) (w : World) (hl : xs.length ≤ 9223372036854775807) (hx : DisAt w a xs)
    (hg : ∀ args w, Sem.run Try.prog (callFunc g args) w = .ok (.enter g args) w) (hp : ∀ x ∈ xs, ∀ ar ca, PassAt w ar ca x.passed → Meets Try.prog w g first cap (.agg #[.int .i64 x.payer, .int .i64 x.lo, .int .i64 x.hi, .slice ar x.passed.length ca]) (p x)) :
    Calls Try.prog 83 #[.slice a xs.length c, .func (.func g) first cap] w fun e w' => e = .returned (.int .i64 (idxBy p xs 0)) ∧ Below w.heap.size w w' := by
  go_enter Try.func83, Try.ntmps83
  go_wp2
  go_loopw [5, 8] (fun _ i wr => ∃ k : Nat, k ≤ xs.length ∧ i = .int .i64 k ∧ Below w.heap.size w wr ∧ idxBy p xs 0 = idxBy p (xs.drop k) k) (fun _ i _ => xs.length - (intOf i).toNat)
  case atStart => exact ⟨0, Nat.zero_le _, rfl, Below.refl _ _, by simp⟩
  case round =>
    obtain ⟨k, hk, rfl, hb, hi⟩ := hrel
    have Hi := Lib.hid hi
    clear hi
    by_cases hlt : k < xs.length
    · obtain ⟨b, off, ar, ca, rfl, hbl, h0, h1, h2, h2b, h3⟩ := hx k hlt
      have hm := hp xs[k] (List.getElem_mem hlt) ar ca h3
      have h0' := (hb.cell (p := ⟨b, off + k * 4, none⟩) hbl).trans h0
      have h1' := (hb.cell (p := ⟨b, off + k * 4 + 1, none⟩) hbl).trans h1
      have h2' := (hb.cell (p := ⟨b, off + k * 4 + 2, none⟩) hbl).trans h2
      have h2b' := (hb.cell (p := ⟨b, off + k * 4 + 3, none⟩) hbl).trans h2b
      clear h0 h1 h2 h2b h3
      go_wp2_with (refine (hm wr hb).mono ?_; rintro e w1 ⟨rfl, hb1⟩)
      · have h1 : p xs[k] = true := by assumption
        go_ret
        exact ⟨by rw [Hi.out, idxBy_hit p xs k hlt h1]; rfl, hb.trans (hb1.mono hb.size)⟩
      · have h1 : p xs[k] = false := by assumption
        go_roundw
        case rel => exact ⟨k + 1, by omega, by go_num, hb.trans (hb1.mono hb.size), by rw [Hi.out, idxBy_miss p xs k hlt h1]⟩
        case measure => simp [intOf]; omega
    · go_wp2
      go_ret
      exact ⟨by rw [Hi.out, idxBy_end p xs k k (by omega)]; rfl, hb⟩

set_option maxHeartbeats 400000 in
theorem containsFunc_dis (a : Option Addr) (xs : List Dis) (c : Nat) (g : FuncId) (first cap : Array Value) (p : Dis → Bool) (w : World) (hl : xs.length ≤ 9223372036854775807) (hx : DisAt w a xs)
    (hg : ∀ args w, Sem.run Try.prog (callFunc g args) w = .ok (.enter g args) w) (hp : ∀ x ∈ xs, ∀ ar ca, PassAt w ar ca x.passed → Meets Try.prog w g first cap (.agg #[.int .i64 x.payer, .int .i64 x.lo, .int .i64 x.hi, .slice ar x.passed.length ca]) (p x)) :
    Calls Try.prog 78 #[.slice a xs.length c, .func (.func g) first cap] w fun e w' => e = .returned (.bool (xs.any p)) ∧ Below w.heap.size w w' := by
  rw [← idxBy_any p xs 0]
  have hi := idxBy_le p xs 0
  go_enter Try.func78, Try.ntmps78
  go_wp2_with (go_at_call 83; refine (indexFunc_dis a xs c g first cap p w hl hx hg hp).mono ?_; rintro e w1 ⟨rfl, hb1⟩; obtain ⟨hc1, hf1, hz1⟩ := bcell hb1; (try simp at hz1); (try (have hy0 : w.heap.size < w1.heap.size := by omega)); (try (have hy1 : w.heap.size + 1 < w1.heap.size := by omega)); (try (have hy2 : w.heap.size + 2 < w1.heap.size := by omega)))
  go_ret
  exact ⟨rfl, hb1⟩

set_option maxHeartbeats 400000 in
theorem allNot_dis (x : Dis) (ar : Option Addr) (ca : Nat) (B : Nat) (g : FuncId) (first cap : Array Value) (q : Bool) (w : World) (hB : B < w.heap.size) (hc : w.cell? ⟨B, 0, none⟩ = some (.func (.func g) first cap))
    (hg : ∀ args w, Sem.run Try.prog (callFunc g args) w = .ok (.enter g args) w) (hm : Meets Try.prog w g first cap (.agg #[.int .i64 x.payer, .int .i64 x.lo, .int .i64 x.hi, .slice ar x.passed.length ca]) q) : Meets Try.prog w 79 #[] #[.pointer (some ⟨B, 0, none⟩)] (.agg #[.int .i64 x.payer, .int .i64 x.lo, .int .i64 x.hi, .slice ar x.passed.length ca]) !q := by
  intro w' hb'
  have hc' : w'.cell? ⟨B, 0, none⟩ = some (.func (.func g) first cap) := (hb'.cell (p := ⟨B, 0, none⟩) hB).trans hc
  have hBw : B < w'.heap.size := Nat.lt_of_lt_of_le hB hb'.size
  clear hc
  show Calls Try.prog 79 #[.agg #[.int .i64 x.payer, .int .i64 x.lo, .int .i64 x.hi, .slice ar x.passed.length ca], .pointer (some ⟨B, 0, none⟩)] w' _
  go_enter Try.func79, Try.ntmps79
  go_wp2_with (refine (hm _ (hb'.trans ((Below.refl _ _).alloc hb'.size _))).mono ?_; rintro e w1 ⟨rfl, hb1⟩)
  go_ret
  exact ⟨rfl, ((Below.refl _ _).alloc (Nat.le_refl _) _).trans (hb1.mono (by simp))⟩

set_option maxHeartbeats 400000 in
theorem all_dis (a : Option Addr) (xs : List Dis) (c : Nat) (g : FuncId) (first cap : Array Value) (p : Dis → Bool) (w : World) (hl : xs.length ≤ 9223372036854775807) (hx : DisAt w a xs)
    (hg : ∀ args w, Sem.run Try.prog (callFunc g args) w = .ok (.enter g args) w) (hp : ∀ x ∈ xs, ∀ W, Below w.heap.size w W → ∀ ar ca, PassAt W ar ca x.passed → Meets Try.prog W g first cap (.agg #[.int .i64 x.payer, .int .i64 x.lo, .int .i64 x.hi, .slice ar x.passed.length ca]) (p x)) :
    Calls Try.prog 67 #[.slice a xs.length c, .func (.func g) first cap] w fun e w' => e = .returned (.bool (xs.all p)) ∧ Below w.heap.size w w' := by
  have e1 : xs.all p = !(xs.any fun x => !p x) := by rw [List.all_eq_not_any_not]
  rw [e1]
  have hb0 : Below w.heap.size w (w.alloc (.cells #[.func (.func g) first cap] 122)) := (Below.refl _ _).alloc (Nat.le_refl _) _
  have hp' := fun x hxx => hp x hxx _ hb0
  go_enter Try.func67, Try.ntmps67
  go_wp2_with (go_at_call 78; refine (containsFunc_dis a xs c 79 #[] #[.pointer (some ⟨w.heap.size, 0, none⟩)] (fun x => !p x) _ hl (hx.below hb0) (enters Try.func79 (by kernel_rfl) rfl) (fun x hxx ar ca h => allNot_dis x ar ca w.heap.size g first cap (p x) _ (by simp) (by rw [World.cell?_alloc_at _ _ _ _ rfl]; rfl) hg (hp' x hxx ar ca h))).mono ?_; rintro e w1 ⟨rfl, hb1⟩; obtain ⟨hc1, hf1, hz1⟩ := bcell hb1; (try simp at hz1); (try (have hy0 : w.heap.size < w1.heap.size := by omega)); (try (have hy1 : w.heap.size + 1 < w1.heap.size := by omega)); (try (have hy2 : w.heap.size + 2 < w1.heap.size := by omega)))
  go_ret
  exact ⟨by simp, hb0.trans (hb1.mono (by simp))⟩

end Go.Proofs.Ytaphfibfjepceaa

namespace Go.Proofs.Ytaphfibfjepceaa
set_option linter.unusedVariables false
set_option linter.unusedSimpArgs false
set_option linter.unnecessarySimpa false
open Go.RowKit Go.Flow

theorem cell_ltK {w : World} {b o : Nat} {v : Value} (h : w.cell? ⟨b, o, none⟩ = some v) : b < w.heap.size := by
  rcases Nat.lt_or_ge b w.heap.size with hl | hl
  · exact hl
  · simp [World.cell?, Array.getElem?_eq_none hl] at h
theorem ret_b {a b : Bool} (h : a = b) : Ending.returned (.bool a) = .returned (.bool b) := by rw [h]
theorem ret_n {k : IntKind} {a b : Int} (h : a = b) : Ending.returned (.int k a) = .returned (.int k b) := by rw [h]

set_option maxHeartbeats 400000 in
theorem within_any (a b c : Int) (w : World) :
    Calls Try.prog 37 #[.int .i64 a, .int .i64 b, .int .i64 c] w fun e w' => e = .returned (.bool (inR a b c)) ∧ w = w' := by
  by_cases h : b ≤ a
  · have h1 : decide (b ≤ a) = true := by simpa using h
    go_enter Try.func37, Try.ntmps37
    go_wp2
    go_ret
    exact ⟨by simp [inR, h1], rfl⟩
  · have h1 : decide (b ≤ a) = false := by simpa using h
    go_enter Try.func37, Try.ntmps37
    go_wp2
    go_ret
    exact ⟨by simp [inR, h1], rfl⟩

set_option maxHeartbeats 400000 in
theorem has_any (x y n : Int) (w : World) :
    Calls Try.prog 36 #[.agg #[.int .i64 x, .int .i64 y], .int .i64 n] w fun e w' => e = .returned (.bool (inR n x y)) ∧ Below w.heap.size w w' := by
  go_enter Try.func36, Try.ntmps36
  go_wp2_with (go_at_call 37; refine (within_any _ _ _ _).mono ?_; rintro e w1 ⟨rfl, rfl⟩)
  go_ret
  exact ⟨rfl, (Below.refl _ _).alloc (Nat.le_refl _) _⟩

set_option maxHeartbeats 400000 in
theorem few_any (p x y : Int) (al : Option Addr) (ca n : Nat) (w : World) (hn : n ≤ 9223372036854775807) :
    Calls Try.prog 68 #[.agg #[.int .i64 p, .int .i64 x, .int .i64 y, .slice al n ca]] w fun e w' => e = .returned (.bool (decide (n ≤ 5))) ∧ Below w.heap.size w w' := by
  have e : decide (n ≤ 5) = decide ((n : Int) ≤ 5) := decide_eq_decide.2 (by omega)
  rw [e]
  go_enter Try.func68, Try.ntmps68
  go_wp2
  go_ret
  exact ⟨rfl, (Below.refl _ _).alloc (Nat.le_refl _) _⟩

set_option maxHeartbeats 400000 in
theorem station_any (st rate keeps : Int) (ad : Option Addr) (nd cd : Nat) (n : Int) (w : World) (h1 : 1 ≤ st) (h2 : st ≤ 1000) :
    Calls Try.prog 76 #[.agg #[.int .i64 st, .int .i64 rate, .int .i64 keeps, .slice ad nd cd], .int .i64 n] w fun e w' => e = .returned (.bool (inR n 0 (st - 1))) ∧ Below w.heap.size w w' := by
  have hw : IntKind.i64.wrap (st - 1) = st - 1 := IntWalk.i64_in _ (by omega)
  go_enter Try.func76, Try.ntmps76
  go_wp2_with (go_at_call 37; refine (within_any _ _ _ _).mono ?_; rintro e w1 ⟨rfl, rfl⟩)
  go_ret
  exact ⟨rfl, (Below.refl _ _).alloc (Nat.le_refl _) _⟩

set_option maxRecDepth 100000 in
set_option maxHeartbeats 400000 in
theorem index_any (a : Option Addr) (xs : List Int) (c : Nat) (x : Int) (w : World) (hl : xs.length ≤ 9223372036854775807) (hx : IntsAt w a xs) :
    Calls Try.prog 40 #[.slice a xs.length c, .int .i64 x] w fun e w' => e = .returned (.int .i64 (idxBy (fun y => x == y) xs 0)) ∧ w = w' := by
  go_enter Try.func40, Try.ntmps40
  go_wp2
  go_loopw [5, 8] (fun _ i wr => ∃ k : Nat, k ≤ xs.length ∧ i = .int .i64 k ∧ wr = w ∧ idxBy (fun y => x == y) xs 0 = idxBy (fun y => x == y) (xs.drop k) k) (fun _ i _ => xs.length - (intOf i).toNat)
  case atStart => exact ⟨0, Nat.zero_le _, rfl, rfl, by simp⟩
  case round =>
    obtain ⟨k, hk, rfl, rfl, hi⟩ := hrel
    have Hi := Lib.hid hi
    clear hi
    by_cases hlt : k < xs.length
    · obtain ⟨b, off, rfl, hbl, hc⟩ := hx k hlt
      obtain ⟨y, hy⟩ : ∃ y, xs[k] = y := ⟨_, rfl⟩
      have hc' : wr.cell? ⟨b, off + k, none⟩ = some (.int .i64 y) := hc.trans (by simp [hlt, hy])
      clear hc
      cases hxy : (x == y)
      · go_wp2
        go_roundw
        case rel => exact ⟨k + 1, by omega, by go_num, by trivial, by rw [Hi.out, idxBy_miss (fun y => x == y) xs k hlt (by rw [hy]; exact hxy)]⟩
        case measure => simp [intOf]; omega
      · go_wp2
        go_ret
        exact ⟨by rw [Hi.out, idxBy_hit (fun y => x == y) xs k hlt (by rw [hy]; exact hxy)]; rfl, rfl⟩
    · go_wp2
      go_ret
      exact ⟨by rw [Hi.out, idxBy_end (fun y => x == y) xs k k (by omega)]; rfl, rfl⟩

set_option maxHeartbeats 400000 in
theorem contains_any (a : Option Addr) (xs : List Int) (c : Nat) (x : Int) (w : World) (hl : xs.length ≤ 9223372036854775807) (hx : IntsAt w a xs) :
    Calls Try.prog 77 #[.slice a xs.length c, .int .i64 x] w fun e w' => e = .returned (.bool (xs.contains x)) ∧ w = w' := by
  have e : xs.contains x = xs.any (fun y => x == y) := by rw [List.contains_eq_any_beq]
  rw [e, ← idxBy_any (fun y => x == y) xs 0]
  have hi := idxBy_le (fun y => x == y) xs 0
  go_enter Try.func77, Try.ntmps77
  go_wp2_with (go_at_call 40; refine (index_any a xs c x w hl hx).mono ?_; rintro e w1 ⟨rfl, rfl⟩)
  go_ret
  exact ⟨rfl, rfl⟩

theorem contains_eq (a : Option Addr) (xs : List Int) (n c : Nat) (hn : xs.length = n) (x : Int) (B : Bool) (hB : Hid (xs.contains x = B)) (w : World) (hl : n ≤ 9223372036854775807) (hx : IntsAt w a xs) :
    Calls Try.prog 77 #[.slice a n c, .int .i64 x] w fun e w' => e = .returned (.bool B) ∧ w = w' := by
  subst hn
  rw [← hB.out]
  exact contains_any a xs c x w hl hx
theorem take_ints {w : World} {a : Option Addr} {l : List Int} (h : IntsAt w a l) (k : Nat) : IntsAt w a (l.take k) := fun j hj => by
  have hj' : j < l.length := by simp at hj; omega
  obtain ⟨b, off, ha, hb, hc⟩ := h j hj'
  refine ⟨b, off, ha, hb, hc.trans ?_⟩
  simp only [List.length_take] at hj
  have : j < k := by omega
  simp [List.getElem?_take, this]
theorem once_drop (st : Int) (l : List Int) {k : Nat} (hk : k < l.length) : ((List.range l.length).drop k).all (fun k => inR (l.getD k 0) 0 (st - 1) && !(l.take k).contains (l.getD k 0)) = ((inR l[k] 0 (st - 1) && !(l.take k).contains l[k]) && ((List.range l.length).drop (k + 1)).all (fun k => inR (l.getD k 0) 0 (st - 1) && !(l.take k).contains (l.getD k 0))) := by
  rw [List.drop_eq_getElem_cons (show k < (List.range l.length).length by simpa using hk), List.all_cons]
  simp [hk]

set_option maxRecDepth 100000 in
set_option maxHeartbeats 2000000 in
theorem dispatch_any (st rate keeps : Int) (ad : Option Addr) (nd cd : Nat) (al : Option Addr) (ca : Nat) (d : Dis) (w : World) (h1 : 1 ≤ st) (h2 : st ≤ 1000) (hd : PassAt w al ca d.passed) (hl : d.passed.length ≤ 1000) :
    Calls Try.prog 66 #[.agg #[.int .i64 st, .int .i64 rate, .int .i64 keeps, .slice ad nd cd], .agg #[.int .i64 d.payer, .int .i64 d.lo, .int .i64 d.hi, .slice al d.passed.length ca]] w fun e w' => e = .returned (.bool (disB st d)) ∧ Below w.heap.size w w' := by
  obtain ⟨py, lo, hi, l⟩ := d
  simp only at hd hl
  obtain ⟨W1, hW1⟩ : ∃ z : World, z = (w.alloc (.cells #[.int .i64 st, .int .i64 rate, .int .i64 keeps, .slice ad nd cd] 55)).alloc (.cells #[.int .i64 py, .int .i64 lo, .int .i64 hi, .slice al l.length ca] 67) := ⟨_, rfl⟩
  have t1 : Below w.heap.size w W1 := by rw [hW1]; exact ((Below.refl _ _).alloc (Nat.le_refl _) _).alloc (by simp) _
  have CA : Cells W1 w.heap.size #[.int .i64 st, .int .i64 rate, .int .i64 keeps, .slice ad nd cd] 55 := by rw [hW1]; exact (Cells.new _ _ _).alloc _
  have CD : Cells W1 (w.heap.size + 1) #[.int .i64 py, .int .i64 lo, .int .i64 hi, .slice al l.length ca] 67 := by rw [hW1]; exact Cells.new' _ _ _ _ (by simp)
  have z1 : W1.heap.size = w.heap.size + 1 + 1 := by rw [hW1]; simp
  have stn := fun (W : World) (n : Int) => station_any st rate keeps ad nd cd n W h1 h2
  have hcap : l.length ≤ ca := hd.le
  replace hd := hd.at_.below t1
  go_enter Try.func66, Try.ntmps66
  go_wp2_with fail
  rw [← hW1]
  clear hW1
  go_loopw [5, 6, 10] (fun _ _ i wr => ∃ k : Nat, k ≤ l.length ∧ i = .int .i64 k ∧ Below W1.heap.size W1 wr ∧ onceB st l = ((List.range l.length).drop k).all (fun k => inR (l.getD k 0) 0 (st - 1) && !(l.take k).contains (l.getD k 0))) (fun _ _ i _ => l.length - (intOf i).toNat)
  case atStart => exact ⟨0, Nat.zero_le _, rfl, Below.refl _ _, by simp [onceB]⟩
  case round =>
    obtain ⟨k, hk, rfl, hb, hi⟩ := hrel
    have Hi := Lib.hid hi
    clear hi
    have z := hb.size
    have q0 := (CA.below hb).cell 0
    have q1 := (CA.below hb).cell 1
    have q2 := (CA.below hb).cell 2
    have q3 := (CA.below hb).cell 3
    have lq := (CA.below hb).lt
    have p0 := (CD.below hb).cell 0
    have p1 := (CD.below hb).cell 1
    have p2 := (CD.below hb).cell 2
    have p3 := (CD.below hb).cell 3
    have lp := (CD.below hb).lt
    simp at q0 q1 q2 q3 p0 p1 p2 p3
    by_cases hlt : k < l.length
    · have hd2 := once_drop st l hlt
      obtain ⟨b, off, rfl, hbl, hc⟩ := (hd.below hb) k hlt
      have hT := take_ints (hd.below hb) k
      have hkT : (l.take k).length = k := by simp; omega
      have hkI : (k : Int) < (l.length : Int) := by omega
      obtain ⟨x, hx⟩ : ∃ x, l[k] = x := ⟨_, rfl⟩
      replace hc : wr.cell? ⟨b, off + k, none⟩ = some (.int .i64 x) := hc.trans (by simp [hlt, hx])
      rw [hx] at hd2
      have hst := stn wr x
      obtain ⟨B, hB⟩ : ∃ B, (l.take k).contains x = B := ⟨_, rfl⟩
      rw [hB] at hd2
      have HB := Lib.hid hB
      clear hB hx stn
      cases hs : inR x 0 (st - 1)
      · rw [hs] at hst hd2
        have Hd := Lib.hid hd2
        clear hd2
        go_wp2_with (go_at_call 76; (with_reducible refine hst.mono ?_); rintro e w1 ⟨rfl, hb1⟩)
        go_ret
        exact ⟨ret_b (by unfold disB; rw [Hi.out, Hd.out]; rfl), t1.trans ((hb.trans (hb1.mono z)).mono t1.size)⟩
      · rw [hs] at hst hd2
        have Hd := Lib.hid hd2
        clear hd2
        go_wp2_with fail
        go_at_call 76
        refine hst.mono ?_
        rintro e w1 ⟨rfl, hb1⟩
        have p3' := below_cell hb1 p3
        have lp1 := cell_ltK p3'
        replace hT := hT.below hb1
        have b1 := hb.trans (hb1.mono z)
        cases B
        · go_wp2_with (go_at_call 77; (with_reducible refine (contains_eq _ _ k _ hkT x false HB _ (by omega) hT).mono ?_); rintro e w2 ⟨rfl, rfl⟩)
          go_roundw
          case rel => exact ⟨k + 1, by omega, by go_num, b1, by rw [Hi.out, Hd.out]; rfl⟩
          case measure => simp [intOf]; omega
        · go_wp2_with (go_at_call 77; (with_reducible refine (contains_eq _ _ k _ hkT x true HB _ (by omega) hT).mono ?_); rintro e w2 ⟨rfl, rfl⟩)
          go_ret
          exact ⟨ret_b (by unfold disB; rw [Hi.out, Hd.out]; rfl), t1.trans (b1.mono t1.size)⟩
    · obtain rfl : k = l.length := by omega
      have hon : onceB st l = true := by rw [Hi.out, List.drop_of_length_le (by simp)]; rfl
      have Hon := Lib.hid hon
      clear hon Hi
      have hst := stn wr py
      cases hs : inR py 0 (st - 1)
      · rw [hs] at hst
        have Hs := Lib.hid hs
        go_wp2_with (go_at_call 76; (with_reducible refine hst.mono ?_); rintro e w1 ⟨rfl, hb1⟩)
        go_ret
        exact ⟨ret_b (by unfold disB; simp [Hon.out, Hs.out]), t1.trans ((hb.trans (hb1.mono z)).mono t1.size)⟩
      · rw [hs] at hst
        have Hs := Lib.hid hs
        go_wp2_with fail
        go_at_call 76
        refine hst.mono ?_
        rintro e w1 ⟨rfl, hb1⟩
        replace p0 := below_cell hb1 p0
        replace p1 := below_cell hb1 p1
        replace p2 := below_cell hb1 p2
        replace p3 := below_cell hb1 p3
        have lp1 := cell_ltK p3
        have b1 := t1.trans ((hb.trans (hb1.mono z)).mono t1.size)
        have hdB : disB st ⟨py, lo, hi, l⟩ = (decide (1 ≤ lo) && decide (lo ≤ hi) && decide (hi ≤ 200) && decide ((0 : Int) < (l.length : Int))) := by
          have e4 : decide (0 < l.length) = decide ((0 : Int) < (l.length : Int)) := decide_eq_decide.2 (by omega)
          unfold disB; simp only [Hon.out, Hs.out, e4, Bool.true_and]
        have HdB := Lib.hid hdB
        clear hdB hs
        cases c1 : decide (1 ≤ lo)
        · go_wp2
          go_ret
          exact ⟨ret_b (by rw [HdB.out, c1]; rfl), b1⟩
        cases c2 : decide (lo ≤ hi)
        · go_wp2
          go_ret
          exact ⟨ret_b (by rw [HdB.out, c1, c2]; rfl), b1⟩
        cases c3 : decide (hi ≤ 200)
        · go_wp2
          go_ret
          exact ⟨ret_b (by rw [HdB.out, c1, c2, c3]; rfl), b1⟩
        go_wp2
        go_ret
        exact ⟨ret_b (by rw [HdB.out, c1, c2, c3]; simp), b1⟩
end Go.Proofs.Ytaphfibfjepceaa

namespace Go.Proofs.Ytaphfibfjepceaa
set_option linter.unusedVariables false
set_option linter.unusedSimpArgs false
set_option linter.unnecessarySimpa false
open Go.RowKit Go.Flow

/-- The lists of an account are short enough to be counted. -/
structure AccSmall (a : Acc) : Prop where
  d : a.ds.length ≤ 1000
  p : ∀ d ∈ a.ds, d.passed.length ≤ 1000

set_option maxRecDepth 100000 in
set_option maxHeartbeats 4000000 in
theorem checkAccount_any (st rate keeps : Int) (ds : List Dis) (ad : Option Addr) (cd : Nat) (w : World) (hd : DisAt w ad ds) (sm : AccSmall ⟨st, rate, keeps, ds⟩) :
    Calls Try.prog 52 #[.agg #[.int .i64 st, .int .i64 rate, .int .i64 keeps, .slice ad ds.length cd]] w fun e w' => e = .returned (.int .i64 (accErr ⟨st, rate, keeps, ds⟩)) ∧ Below w.heap.size w w' := by
  have l0 : ds.length ≤ 1000 := sm.d
  have few := fun W (b : Below w.heap.size w W) => all_dis ad ds cd 68 #[] #[] fewB W (by omega) (hd.below b) (enters Try.func68 (by kernel_rfl) rfl) (fun x hx W1 _ al ca hR W' hW' => few_any x.payer x.lo x.hi al ca x.passed.length W' (by have := sm.p x hx; omega))
  have dis := fun (h1 : 1 ≤ st) (h2 : st ≤ 1000) W (b : Below w.heap.size w W) => all_dis ad ds cd 66 #[.agg #[.int .i64 st, .int .i64 rate, .int .i64 keeps, .slice ad ds.length cd]] #[] (disB st) W (by omega) (hd.below b) (enters Try.func66 (by kernel_rfl) rfl) (fun x hx W1 _ al ca hR W' hW' => dispatch_any st rate keeps ad ds.length cd al ca x W' h1 h2 (hR.below hW') (sm.p x hx))
  have dis2 := fun (h1 : ¬ st < 1) (h2 : ¬ 7 < st) => dis (by omega) (by omega)
  clear dis
  go_enter Try.func52, Try.ntmps52
  go_wp2_with (first
    | (go_at_call 67; (with_reducible refine (few _ (by (repeat (first | exact Below.refl _ _ | refine Below.alloc ?_ (by first | omega | (simp; done) | (simp; omega)) _ | refine Below.drew ?_ | refine Below.setCell ?_ (by first | omega | (simp; done) | (simp; omega)) _ | refine Below.trans ?_ (Below.mono (by assumption) (by first | omega | (simp; done) | (simp; omega))))))).mono ?_); rintro e w1 ⟨rfl, hb1⟩; obtain ⟨hc1, hf1, hz1⟩ := bcell hb1; (try simp at hz1); (try (have hy0 : w.heap.size < w1.heap.size := by omega)); (try (have hy1 : w.heap.size + 1 < w1.heap.size := by omega)); (try (have hy2 : w.heap.size + 2 < w1.heap.size := by omega)); cases hF1 : ds.all fewB)
    | (go_at_call 67; (with_reducible refine (dis2 (by assumption) (by assumption) _ (by (repeat (first | exact Below.refl _ _ | refine Below.alloc ?_ (by first | omega | (simp; done) | (simp; omega)) _ | refine Below.drew ?_ | refine Below.setCell ?_ (by first | omega | (simp; done) | (simp; omega)) _ | refine Below.trans ?_ (Below.mono (by assumption) (by first | omega | (simp; done) | (simp; omega))))))).mono ?_); rintro e w1 ⟨rfl, hb1⟩; obtain ⟨hc1, hf1, hz1⟩ := bcell hb1; (try simp at hz1); (try (have hy0 : w.heap.size < w1.heap.size := by omega)); (try (have hy1 : w.heap.size + 1 < w1.heap.size := by omega)); (try (have hy2 : w.heap.size + 2 < w1.heap.size := by omega)); cases hV1 : ds.all (disB st))
    | (go_at_call 37; (with_reducible refine (within_any rate 0 20 _).mono ?_); rintro e w1 ⟨rfl, rfl⟩; cases hP1 : inR rate 0 20)
    | (go_at_call 37; (with_reducible refine (within_any keeps 0 100 _).mono ?_); rintro e w1 ⟨rfl, rfl⟩; cases hK1 : inR keeps 0 100))
  all_goals go_ret
  all_goals (refine ⟨?_, by (repeat (first | exact Below.refl _ _ | refine Below.alloc ?_ (by first | omega | (simp; done) | (simp; omega)) _ | refine Below.drew ?_ | refine Below.setCell ?_ (by first | omega | (simp; done) | (simp; omega)) _ | refine Below.trans ?_ (Below.mono (by assumption) (by first | omega | (simp; done) | (simp; omega)))))⟩)
  all_goals (first | (simp [accErr, *]; done) | (simp [accErr, *]; omega) | (exfalso; clear hd; simp_all; done) | go_ways)
end Go.Proofs.Ytaphfibfjepceaa
