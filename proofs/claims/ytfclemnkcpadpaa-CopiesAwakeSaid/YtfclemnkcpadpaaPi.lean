/- copies, plain: nobody asleep on one route -/
import Derived.Test.YtfclemnkcpadpaaPh
namespace Go.Proofs.Ytfclemnkcpadpaa
set_option linter.unusedVariables false
set_option linter.unusedSimpArgs false
set_option linter.unnecessarySimpa false
open Go.RowKit Go.Flow

def bareL (l : Leg) : Leg := ⟨l.lo, l.hi, []⟩
def bareR (r : Route) : Route := ⟨r.legs.map bareL, r.lossy⟩
def bareP (p : Post) (r : Nat) : Post := { p with routes := p.routes.modify r bareR }
def loS (ls : List Leg) (s : Int) : Int := ls.foldl (fun s l => s + l.lo) s
def hiS (ls : List Leg) (s : Int) : Int := ls.foldl (fun s l => s + l.hi) s
theorem loS_take (ls : List Leg) (s : Int) {k : Nat} (h : k < ls.length) : loS (ls.take (k + 1)) s = loS (ls.take k) s + ls[k].lo := by
  unfold loS
  rw [List.take_succ_eq_append_getElem h, List.foldl_append]; rfl
theorem hiS_take (ls : List Leg) (s : Int) {k : Nat} (h : k < ls.length) : hiS (ls.take (k + 1)) s = hiS (ls.take k) s + ls[k].hi := by
  unfold hiS
  rw [List.take_succ_eq_append_getElem h, List.foldl_append]; rfl
def itvS (a b : Int) : Hrs := fun n => decide (a ≤ n) && decide ((n : Int) ≤ b)
theorem itvS_iff {a b : Int} {n : Nat} : itvS a b n = true ↔ a ≤ n ∧ (n : Int) ≤ b := by simp [itvS]
theorem bare_awk (l : Leg) (h : Int) : awk (bareL l) h = h := awk_up rfl
theorem bare_legHr {l : Leg} (hl : legOk l = true) {a b : Int} (ha : 0 ≤ a) (hab : a ≤ b) (hb : b ≤ 100) : legHr (bareL l) (itvS a b) = itvS (a + l.lo) (b + l.hi) := by
  obtain ⟨a1, a2, a3, _⟩ := legOk_iff.1 hl
  funext m
  rw [Bool.eq_iff_iff, legHr_iff, itvS_iff]
  constructor
  · rintro ⟨h, j, h1, h2, h3, h4⟩
    rw [itvS_iff] at h2
    rw [bare_awk] at h4
    simp only [bareL] at h3 h4
    omega
  · rintro ⟨h1, h2⟩
    have e1 : ((max a ((m : Int) - l.hi)).toNat : Int) = max a ((m : Int) - l.hi) := by omega
    refine ⟨(max a ((m : Int) - l.hi)).toNat, ((m : Int) - l.lo - max a ((m : Int) - l.hi)).toNat, by omega, itvS_iff.2 ⟨by omega, by omega⟩, by simp only [bareL]; omega, ?_⟩
    rw [bare_awk]
    simp only [bareL]
    omega
theorem bare_fold : ∀ (ls : List Leg) (a b : Int), ls.all legOk = true → 0 ≤ a → a ≤ b → b + 6 * ls.length ≤ 100 → (ls.map bareL).foldl (fun S l => legHr l S) (itvS a b) = itvS (loS ls a) (hiS ls b)
  | [], _, _, _, _, _, _ => rfl
  | l :: ls, a, b, hl, ha, hab, hb => by
    simp only [List.all_cons, Bool.and_eq_true, List.length_cons] at hl hb
    obtain ⟨a1, a2, a3, _⟩ := legOk_iff.1 hl.1
    simp only [List.map_cons, List.foldl_cons]
    rw [bare_legHr hl.1 ha hab (by omega), bare_fold ls _ _ hl.2 (by omega) (by omega) (by omega)]
    rfl
theorem sums_bd : ∀ (ls : List Leg) (a b : Int), ls.all legOk = true → a ≤ b → a ≤ loS ls a ∧ loS ls a ≤ hiS ls b ∧ hiS ls b ≤ b + 6 * ls.length
  | [], a, b, _, hab => ⟨Int.le_refl _, hab, by show b ≤ b + 6 * ((0 : Nat) : Int); omega⟩
  | l :: ls, a, b, hl, hab => by
    simp only [List.all_cons, Bool.and_eq_true] at hl
    obtain ⟨a1, a2, a3, _⟩ := legOk_iff.1 hl.1
    have := sums_bd ls (a + l.lo) (b + l.hi) hl.2 (by omega)
    have e1 : loS (l :: ls) a = loS ls (a + l.lo) := rfl
    have e2 : hiS (l :: ls) b = hiS ls (b + l.hi) := rfl
    rw [e1, e2, List.length_cons]
    omega
theorem any_fold : ∀ (ls : List Leg) (S : Hrs) (m : Nat) (a b : Int), ls.all legOk = true → HrsLe S m → 30 ≤ m → m + 6 * ls.length ≤ 94 → 0 ≤ a → (∀ n : Nat, S n = true → a ≤ n) → (∃ n : Nat, S n = true ∧ b ≤ n) →
    (∀ n : Nat, ls.foldl (fun S l => legHr l S) S n = true → loS ls a ≤ n) ∧ (∃ n : Nat, ls.foldl (fun S l => legHr l S) S n = true ∧ hiS ls b ≤ n)
  | [], _, _, _, _, _, _, _, _, _, h1, h2 => ⟨h1, h2⟩
  | l :: ls, S, m, a, b, hl, hS, hm, hb, ha, h1, h2 => by
    simp only [List.all_cons, Bool.and_eq_true, List.length_cons] at hl hb
    obtain ⟨a1, a2, a3, _⟩ := legOk_iff.1 hl.1
    simp only [List.foldl_cons]
    refine any_fold ls (legHr l S) (m + 6) (a + l.lo) (b + l.hi) hl.2 (legHr_le hl.1 hS hm) (by omega) (by omega) (by omega) (fun n hn => ?_) ?_
    · obtain ⟨h, j, c1, c2, c3, c4⟩ := legHr_iff.1 hn
      have := h1 h c2
      have := awk_bd l (h + l.lo + j)
      omega
    · obtain ⟨n, n1, n2⟩ := h2
      have := hS n n1
      have hbd := awk_bd l (n + l.lo + ((l.hi - l.lo).toNat : Int))
      refine ⟨(awk l (n + l.lo + ((l.hi - l.lo).toNat : Int))).toNat, legHr_iff.2 ⟨n, (l.hi - l.lo).toNat, by omega, n1, by omega, by omega⟩, by omega⟩
section
variable {p : Post} (h0 : postErr p = 0) {i r : Nat} (hi : i < p.sends.length) (hr : r < p.routes.length)
include h0
theorem bare_ok : postErr (bareP p r) = 0 := by
  obtain ⟨a1, a2, a3, a4, a5, a6, a7, a8, a9⟩ := postErr_ok h0
  have hmem : ∀ x ∈ (bareP p r).routes, ∃ y ∈ p.routes, x = y ∨ x = bareR y := by
    intro x hx
    obtain ⟨k, hk, rfl⟩ := List.mem_iff_getElem.1 hx
    have hk' : k < p.routes.length := by simpa [bareP] using hk
    refine ⟨p.routes[k], List.getElem_mem hk', ?_⟩
    simp only [bareP, List.getElem_modify]
    split
    · exact Or.inr rfl
    · exact Or.inl rfl
  have hfew : (bareP p r).routes.all routeFew = true := by
    rw [List.all_eq_true]
    intro x hx
    obtain ⟨y, hy, rfl | rfl⟩ := hmem x hx
    · exact List.all_eq_true.1 a3 _ hy
    · have := List.all_eq_true.1 a3 _ hy
      simp only [routeFew, Bool.and_eq_true, decide_eq_true_eq, List.all_eq_true] at this ⊢
      refine ⟨by simpa [bareR] using this.1, fun l hl => ?_⟩
      obtain ⟨l', _, rfl⟩ := List.mem_map.1 hl
      simp [bareL]
  have hok : (bareP p r).routes.all routeOk = true := by
    rw [List.all_eq_true]
    intro x hx
    obtain ⟨y, hy, rfl | rfl⟩ := hmem x hx
    · exact List.all_eq_true.1 a9 _ hy
    · have := List.all_eq_true.1 a9 _ hy
      simp only [routeOk, Bool.and_eq_true, decide_eq_true_eq, List.all_eq_true] at this ⊢
      refine ⟨by simpa [bareR] using this.1, fun l hl => ?_⟩
      obtain ⟨l', hl', rfl⟩ := List.mem_map.1 hl
      obtain ⟨b1, b2, b3, _⟩ := legOk_iff.1 (this.2 l' hl')
      exact legOk_iff.2 ⟨b1, b2, b3, rfl⟩
  have hlen : (bareP p r).routes.length = p.routes.length := by simp [bareP]
  have hnil : (bareP p r).routes ≠ [] := by
    intro e
    have := congrArg List.length e
    rw [hlen] at this
    exact a5 (List.length_eq_zero_iff.1 this)
  unfold postErr
  rw [if_neg (by rw [hlen, hfew, show (bareP p r).sends = p.sends from rfl]; simp; omega),
    if_neg (by rw [hok, show (bareP p r).sends = p.sends from rfl, show (bareP p r).pat = p.pat from rfl, a6, a7, a8]; simp [a4, hnil])]
include hi hr
theorem bare_hr : hrF (bareP p r) i r = itvS (loS p.routes[r].legs (p.sends.getD i 0)) (hiS p.routes[r].legs (p.sends.getD i 0)) := by
  have hs := (post_hours h0).s _ (List.getElem_mem hi)
  obtain ⟨l1, l2, _⟩ := post_legs h0 p.routes[r] (List.getElem_mem hr)
  have e1 : ((bareP p r).routes[r]?) = some (bareR p.routes[r]) := by
    have : r < (bareP p r).routes.length := by simpa [bareP] using hr
    rw [List.getElem?_eq_getElem this]
    simp [bareP, List.getElem_modify]
  have e4 : p.sends.getD i 0 = p.sends[i] := by simp [hi]
  unfold hrF
  rw [e1, show (bareP p r).sends = p.sends from rfl, e4]
  simp only [Option.map_some, Option.getD_some, bareR]
  unfold routeHr
  have : oneHr p.sends[i] = itvS p.sends[i] p.sends[i] := by
    funext n
    unfold oneHr itvS
    rw [Bool.eq_iff_iff]
    simp only [Bool.and_eq_true, decide_eq_true_eq]
    omega
  rw [this]
  exact bare_fold _ _ _ l2 (by omega) (Int.le_refl _) (by omega)
theorem bare_bd : 0 ≤ loS p.routes[r].legs (p.sends.getD i 0) ∧ loS p.routes[r].legs (p.sends.getD i 0) ≤ hiS p.routes[r].legs (p.sends.getD i 0) ∧ hiS p.routes[r].legs (p.sends.getD i 0) ≤ 48 := by
  have hs := (post_hours h0).s _ (List.getElem_mem hi)
  obtain ⟨l1, l2, _⟩ := post_legs h0 p.routes[r] (List.getElem_mem hr)
  have e4 : p.sends.getD i 0 = p.sends[i] := by simp [hi]
  rw [e4]
  have := sums_bd p.routes[r].legs _ _ l2 (Int.le_refl p.sends[i])
  omega
theorem bare_hours : hoursErr (bareP p r) i r = 0 ∧ hoursOut (bareP p r) i r = (List.range (hiS p.routes[r].legs (p.sends.getD i 0) - loS p.routes[r].legs (p.sends.getD i 0) + 1).toNat).map (fun (k : Nat) => loS p.routes[r].legs (p.sends.getD i 0) + (k : Int)) := by
  have e1 : inLen (i : Int) (bareP p r).sends.length = true := inR_iff.2 ⟨by omega, by show (i : Int) ≤ (p.sends.length : Int) - 1; omega⟩
  have e2 : inLen (r : Int) (bareP p r).routes.length = true := inR_iff.2 ⟨by omega, by rw [show (bareP p r).routes.length = p.routes.length by simp [bareP]]; show (r : Int) ≤ (p.routes.length : Int) - 1; omega⟩
  have h2 : hoursErr (bareP p r) i r = 0 := by unfold hoursErr; rw [if_neg (by simpa using bare_ok h0), e1, e2]; rfl
  refine ⟨h2, ?_⟩
  unfold hoursOut
  rw [if_pos h2]
  simp only [Int.toNat_natCast]
  rw [bare_hr h0 hi hr]
  obtain ⟨b1, b2, b3⟩ := bare_bd h0 hi hr
  obtain ⟨lo, hlo⟩ : ∃ lo : Nat, loS p.routes[r].legs (p.sends.getD i 0) = (lo : Int) := ⟨_, (Int.toNat_of_nonneg b1).symm⟩
  obtain ⟨hi', hhi⟩ : ∃ lo : Nat, hiS p.routes[r].legs (p.sends.getD i 0) = (lo : Int) := ⟨(hiS p.routes[r].legs (p.sends.getD i 0)).toNat, by omega⟩
  rw [hlo] at b2
  rw [hhi] at b2 b3
  rw [hlo, hhi]
  rw [hrList_nat (L := (List.range ((hi' : Int) - lo + 1).toNat).map (lo + ·)), List.map_map]
  · apply List.map_congr_left
    intro x _
    simp only [Function.comp]
    omega
  · rw [List.pairwise_map]
    exact List.pairwise_lt_range.imp (fun h => by omega)
  · intro x
    simp only [List.mem_map, List.mem_range, itvS_iff]
    constructor
    · rintro ⟨y, h1, rfl⟩; omega
    · rintro ⟨h1, h2, h3⟩; exact ⟨x - lo, by omega, by omega⟩
theorem awake_hours : hoursErr p i r = 0 ∧ ∃ O, hoursOut p i r = O ∧ O.length ≤ 101 ∧ ∃ h : 0 < O.length, loS p.routes[r].legs (p.sends.getD i 0) ≤ O[0] ∧ hiS p.routes[r].legs (p.sends.getD i 0) ≤ O[O.length - 1] := by
  have e1 : inLen (i : Int) p.sends.length = true := inR_iff.2 ⟨by omega, by omega⟩
  have e2 : inLen (r : Int) p.routes.length = true := inR_iff.2 ⟨by omega, by omega⟩
  have h2 : hoursErr p i r = 0 := by unfold hoursErr; rw [if_neg (by simpa using h0), e1, e2]; rfl
  refine ⟨h2, ?_⟩
  have e3 : hoursOut p i r = hrList (hrF p i r) := by unfold hoursOut; rw [if_pos h2]; rfl
  have hne := post_ne h0 hi r hr
  have hpos : 0 < (hrList (hrF p i r)).length := List.length_pos_iff.2 hne
  refine ⟨_, e3, hrList_len _, hpos, ?_⟩
  have hs := (post_hours h0).s _ (List.getElem_mem hi)
  obtain ⟨l1, l2, _⟩ := post_legs h0 p.routes[r] (List.getElem_mem hr)
  have e4 : p.sends.getD i 0 = p.sends[i] := by simp [hi]
  have e5 : hrF p i r = p.routes[r].legs.foldl (fun S l => legHr l S) (oneHr (p.sends.getD i 0)) := by
    unfold hrF routeHr
    rw [List.getElem?_eq_getElem hr]; rfl
  have hone : ∀ n : Nat, oneHr (p.sends.getD i 0) n = true → (n : Int) = p.sends.getD i 0 := fun n hn => of_decide_eq_true hn
  have key := any_fold p.routes[r].legs (oneHr (p.sends.getD i 0)) 30 (p.sends.getD i 0) (p.sends.getD i 0) l2 (fun n hn => by have := hone n hn; omega) (by omega) (by omega) (by omega) (fun n hn => by have := hone n hn; omega) ⟨p.sends[i].toNat, decide_eq_true (by omega), by omega⟩
  rw [← e5] at key
  obtain ⟨k1, n, k2, k3⟩ := key
  have hle := (hr_ok h0 hi hr).1
  obtain ⟨m, m1, m2, m3, m4⟩ := firstH_spec hne
  obtain ⟨x, x1, x2, x3, x4⟩ := lastH_spec hne
  have f1 : firstH (hrF p i r) = (hrList (hrF p i r))[0] := by unfold firstH; simp [hpos]
  have f2 : lastH (hrF p i r) = (hrList (hrF p i r))[(hrList (hrF p i r)).length - 1] := by
    unfold lastH
    rw [List.getD_eq_getElem?_getD, List.getElem?_eq_getElem (by omega)]; rfl
  rw [← f1, ← f2]
  have := k1 m m2
  have := x4 n (by have := hle n k2; omega) k2
  omega
end
end Go.Proofs.Ytfclemnkcpadpaa
