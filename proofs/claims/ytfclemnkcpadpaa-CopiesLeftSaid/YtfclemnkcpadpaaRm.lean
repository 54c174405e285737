/- copies' reference: Hours · copies' reference: Ends · copies' reference: Comings -/
import Derived.Test.YtfclemnkcpadpaaRl
import Derived.Laws.Tables
import Derived.Laws.Rows
import Derived.Laws.CopyOwn
import Derived.Test.YtfclemnkcpadpaaPa
namespace Go.Proofs.Ytfclemnkcpadpaa
set_option linter.unusedVariables false
set_option linter.unusedSimpArgs false
set_option linter.unnecessarySimpa false
open Go.RowKit Go.Flow

/-- A set of the reference's, as a block. -/
def setA (f : Hrs) : Array Value := ((List.range 102).map fun n => Value.bool (f n)).toArray
theorem setA_size (f : Hrs) : (setA f).size = 102 := by simp [setA]
theorem setA_get (f : Hrs) (n : Nat) (h : n < 102) : (setA f)[n]? = some (.bool (f n)) := by
  unfold setA
  rw [List.getElem?_toArray, List.getElem?_map, List.getElem?_range h]; rfl
theorem setA_set (f : Hrs) (m : Nat) : (setA f).setIfInBounds m (.bool true) = setA (fun n => f n || n == m) := by
  unfold setA
  rw [List.setIfInBounds_toArray]
  congr 1
  apply List.ext_getElem
  · simp
  · intro i h1 h2
    simp only [List.getElem_set, List.getElem_map, List.getElem_range]
    by_cases e : m = i
    · simp [e]
    · rw [if_neg e]; simp [Ne.symm e]
theorem setA_one (f : Hrs) : (setA f).all (·.oneCell') = true := by
  rw [Array.all_eq_true]
  intro i hi
  have h : i < 102 := by rw [setA_size] at hi; exact hi
  have := setA_get f i h
  rw [Array.getElem?_eq_getElem hi] at this
  rw [Option.some.inj this]; rfl
def preL (f : Hrs) (h : Nat) : List Nat := (List.range h).filter f
theorem preL_yes {f : Hrs} {h : Nat} (hf : f h = true) : preL f (h + 1) = preL f h ++ [h] := by
  unfold preL; rw [List.range_succ, List.filter_append]; simp [hf]
theorem preL_no {f : Hrs} {h : Nat} (hf : f h = false) : preL f (h + 1) = preL f h := by
  unfold preL; rw [List.range_succ, List.filter_append]; simp [hf]
theorem accHr_pre (l : Leg) {f : Hrs} (hle : HrsLe f 90) : accHr l (preL f 91) = legHr l f := by
  funext m
  unfold accHr legHr preL
  rw [Bool.eq_iff_iff]
  simp only [List.any_eq_true, List.mem_filter, List.mem_range, Bool.and_eq_true, decide_eq_true_eq]
  constructor
  · rintro ⟨h, ⟨h1, h2⟩, h3⟩; exact ⟨h, by omega, h2, h3⟩
  · rintro ⟨h, _, h2, h3⟩; exact ⟨h, ⟨by have := hle h h2; omega, h2⟩, h3⟩

structure HoB (w : World) (al : Option Addr) (ca : Nat) (r : Route) (f : Hrs) (W : World) : Prop where
  b : Below w.heap.size w W
  c2 : Cells W w.heap.size #[.slice al r.legs.length ca, .bool r.lossy] 54
  c4 : Cells W (w.heap.size + 1) (setA noHr) 50
  c5 : Cells W (w.heap.size + 1 + 1) (setA f) 50
theorem HoB.below {w : World} {al : Option Addr} {ca : Nat} {r : Route} {f : Hrs} {W W' : World} (h : HoB w al ca r f W) (hb : Below W.heap.size W W') : HoB w al ca r f W' :=
  ⟨h.b.trans (hb.mono h.b.size), h.c2.below hb, h.c4.below hb, h.c5.below hb⟩
theorem HoB.put {w : World} {al : Option Addr} {ca : Nat} {r : Route} {f : Hrs} {W : World} (h : HoB w al ca r f W) {B v : Nat} (x : Value) (hB : w.heap.size + 3 ≤ B) : HoB w al ca r f (W.setCell ⟨B, v, none⟩ x) :=
  ⟨h.b.setCell (p := ⟨B, v, none⟩) (show w.heap.size ≤ B by omega) _, (Below.heap_setCell W ⟨B, v, none⟩ x _ (show w.heap.size ≠ B by omega)).trans h.c2, (Below.heap_setCell W ⟨B, v, none⟩ x _ (show w.heap.size + 1 ≠ B by omega)).trans h.c4, (Below.heap_setCell W ⟨B, v, none⟩ x _ (show w.heap.size + 1 + 1 ≠ B by omega)).trans h.c5⟩

theorem HoB.row {w : World} {al : Option Addr} {ca : Nat} {r : Route} {f : Hrs} {W : World} (h : HoB w al ca r f W) (g : Hrs) : HoB w al ca r g (W.setRow (w.heap.size + 1 + 1) (setA g)) :=
  ⟨below_setRow h.b (by omega) _, (setRow_other W _ _ _ (by omega)).trans h.c2, (setRow_other W _ _ _ (by omega)).trans h.c4, setRow_heap W _ _ _ _ _ h.c5⟩
set_option maxRecDepth 100000 in
set_option maxHeartbeats 8000000 in
theorem refHours_any (al : Option Addr) (ca : Nat) (r : Route) (s : Nat) (w : World) (hr : LegsAt w al r.legs) (ll : r.legs.length ≤ 3) (hok : r.legs.all legOk = true) (sm : ∀ l ∈ r.legs, l.asl.length ≤ 1000) (hs : s ≤ 30) :
    Calls Try.prog 30 #[.agg #[.slice al r.legs.length ca, .bool r.lossy], .int .i64 s] w fun e w' => e = .returned (.agg (setA (legsHr r.legs s r.legs.length))) ∧ Below w.heap.size w w' := by
  have Hok := Lib.hid hok
  have Hsm := Lib.hid sm
  clear hok sm
  have zs : Try.zeroCells50 = setA noHr := by kernel_rfl
  have Hzs := Lib.hid zs
  have hsI : (s : Int) < 102 := by omega
  have g0 : (Try.zeroCells50)[s]? = some (.bool false) := by rw [zs]; exact setA_get noHr s (by omega)
  clear zs
  go_enter Try.func30, Try.ntmps30
  go_wp2
  rw [Hzs.out, setA_set]
  have hone : setA (fun n => noHr n || n == s) = setA (legsHr r.legs s 0) := by
    congr 1
    funext n
    simp only [legsHr, List.take_zero, List.foldl_nil, noHr, Bool.false_or, oneHr]
    rw [Bool.eq_iff_iff]
    simp only [beq_iff_eq, decide_eq_true_eq]
    omega
  rw [hone]
  clear hone g0 hsI
  obtain ⟨W1, hW1⟩ : ∃ z : World, z = (((w.alloc (.cells #[.slice al r.legs.length ca, .bool r.lossy] 54)).alloc (.cells (setA noHr) 50)).alloc (.cells (setA (legsHr r.legs s 0)) 50)) := ⟨_, rfl⟩
  have B1 : HoB w al ca r (legsHr r.legs s 0) W1 := by
    rw [hW1]
    exact ⟨(((Below.refl _ _).alloc (Nat.le_refl _) _).alloc (by simp) _).alloc (by simp; omega) _, ((Cells.new _ _ _).alloc _).alloc _, (Cells.new' _ _ _ _ (by simp)).alloc _, Cells.new' _ _ _ _ (by simp)⟩
  have z1 : W1.heap.size = w.heap.size + 3 := by rw [hW1]; simp
  rw [← hW1]
  clear hW1
  go_loopw [6] (fun i wr => ∃ j : Nat, j ≤ r.legs.length ∧ i = .int .i64 j ∧ HoB w al ca r (legsHr r.legs s j) wr) (fun i _ => r.legs.length - (intOf i).toNat)
  case atStart => exact ⟨0, Nat.zero_le _, rfl, B1⟩
  case round =>
    obtain ⟨j, hj, rfl, hB⟩ := hrel
    clear B1 z1
    have q0 := hB.c2.cell 0
    have l2 := hB.c2.lt
    simp at q0
    by_cases hjl : j < r.legs.length
    · have hjI : (j : Int) < (r.legs.length : Int) := by omega
      obtain ⟨b6, off6, ar6, c6, rfl, hbl6, K0, K1, K2, HR6⟩ := hr j hjl
      have ltk : legsHr r.legs s (j + 1) = legHr r.legs[j] (legsHr r.legs s j) := by
        unfold legsHr
        rw [List.take_succ_eq_append_getElem hjl, List.foldl_append]; rfl
      have lok := List.all_eq_true.1 Hok.out _ (List.getElem_mem hjl)
      have las := Hsm.out _ (List.getElem_mem hjl)
      have Hle := Lib.hid (legs_le Hok.out ll (s := s) (by omega) j)
      obtain ⟨l, hl⟩ : ∃ l, r.legs[j] = l := ⟨_, rfl⟩
      rw [hl] at K0 K1 K2 HR6 ltk lok las
      have Hlt := Lib.hid ltk
      have lok' := lok
      simp only [legOk, uptoB, Bool.and_eq_true, decide_eq_true_eq] at lok'
      obtain ⟨⟨⟨lo0, lo1⟩, lo2⟩, hasl⟩ := lok'
      have Hasl := Lib.hid hasl
      clear ltk lok hl hasl
      obtain ⟨f, hf⟩ : ∃ f, legsHr r.legs s j = f := ⟨_, rfl⟩
      rw [hf] at hB Hlt Hle
      clear hf
      have hcnt : ((l.hi - l.lo + 1).toNat : Int) = l.hi - l.lo + 1 := by omega
      obtain ⟨cnt, hct⟩ : ∃ cnt, (l.hi - l.lo + 1).toNat = cnt := ⟨_, rfl⟩
      rw [hct] at hcnt
      have hc1 : l.hi - l.lo + 1 ≤ cnt ∧ (cnt : Int) ≤ l.hi - l.lo + 1 := by omega
      have Hct := Lib.hid hct
      clear hct hcnt
      have k0 := below_cell hB.b K0
      have lk := cell_ltK k0
      clear hbl6 k0 lk
      go_wp2
      rw [Hzs.out]
      obtain ⟨W6, hW6⟩ : ∃ z : World, z = wr.alloc (.cells (setA noHr) 50) := ⟨_, rfl⟩
      have b6w : Below wr.heap.size wr W6 := by rw [hW6]; exact (Below.refl _ _).alloc (Nat.le_refl _) _
      have cN : Cells W6 wr.heap.size (setA noHr) 50 := by rw [hW6]; exact Cells.new _ _ _
      rw [← hW6]
      clear hW6
      obtain ⟨Bn, hBn⟩ : ∃ z : Nat, z = wr.heap.size := ⟨_, rfl⟩
      have hBn3 : w.heap.size + 3 ≤ Bn := by have := hB.c5.lt; omega
      have hB6 := hB.below b6w
      rw [← hBn] at cN ⊢
      clear hB q0 l2 b6w hBn
      go_loopw [8] (fun x wr => ∃ h : Nat, h ≤ 91 ∧ x = .int .i64 h ∧ HoB w (some ⟨b6, off6, none⟩) ca r f wr ∧ Cells wr Bn (setA (accHr l (preL f h))) 50) (fun x _ => 91 - (intOf x).toNat)
      case atStart => exact ⟨0, by omega, rfl, hB6, cN⟩
      case round =>
        obtain ⟨h, hh, rfl, hB, cH⟩ := hrel
        clear hB6 cN
        have q0 := hB.c2.cell 0
        have l2 := hB.c2.lt
        simp at q0
        by_cases h90 : h ≤ 90
        · have h90I : (h : Int) ≤ 90 := by omega
          have k0 := below_cell hB.b K0
          have lk := cell_ltK k0
          go_wp2
          clear q0 l2 k0 lk
          go_loopw [9] (fun x wr => ∃ q : Nat, q ≤ cnt ∧ (f h = false → q = 0) ∧ x = .int .i64 (l.lo + q) ∧ HoB w (some ⟨b6, off6, none⟩) ca r f wr ∧ Cells wr Bn (setA (accN l (preL f h) h q)) 50) (fun x _ => cnt - (intOf x - l.lo).toNat)
          case atStart => exact ⟨0, by omega, fun _ => rfl, by go_num, hB, by rw [accN_zero]; exact cH⟩
          case round =>
            obtain ⟨q, hq, hqf, rfl, hB, cQ⟩ := hrel
            clear cH
            have q0 := hB.c2.cell 0
            have l2 := hB.c2.lt
            simp at q0
            have k0 := below_cell hB.b K0
            have k1 := below_cell hB.b K1
            have k2 := below_cell hB.b K2
            have lk := cell_ltK k0
            have n5 := hB.c5.cell h
            rw [setA_get f h (by omega)] at n5
            have l5 := hB.c5.lt
            have hqf' := Lib.hid hqf
            clear hqf
            cases hf : f h
            · obtain rfl := hqf'.out hf
              rw [hf] at n5
              have Hp := Lib.hid (preL_no hf)
              clear hf
              go_wp2
              go_roundw
              case rel => exact ⟨h + 1, by omega, by go_num, hB, by rw [Hp.out]; rw [accN_zero] at cQ; exact cQ⟩
              case measure => simp [intOf]; omega
            · rw [hf] at n5
              have Hp := Lib.hid (preL_yes hf)
              have Hf := Lib.hid hf
              clear hf
              by_cases hqc : q < cnt
              · have hlt : l.lo + (q : Int) ≤ l.hi := by omega
                have h48 := Hle.out h (by have := n5; exact Hf.out)
                have hw1 : IntKind.i64.wrap ((h : Int) + (l.lo + (q : Int))) = (h : Int) + l.lo + q := by rw [← Int.add_assoc]; exact IntWalk.i64_in _ (by omega)
                have haw : ∀ W, Below wr.heap.size wr W → Calls Try.prog 72 #[.agg #[.int .i64 l.lo, .int .i64 l.hi, .slice ar6 l.asl.length c6], .int .i64 ((h : Int) + l.lo + q)] W fun e w' => e = .returned (.int .i64 (awk l ((h : Int) + l.lo + q))) ∧ Below W.heap.size W w' :=
                  fun W b => refAwake_any ar6 c6 l ((h : Int) + l.lo + q) W ((HR6.below hB.b).below b) las Hasl.out (by omega) (by omega)
                have hab := awk_bd l ((h : Int) + l.lo + q)
                obtain ⟨v, hv⟩ : ∃ v : Nat, awk l ((h : Int) + l.lo + q) = v := ⟨(awk l ((h : Int) + l.lo + q)).toNat, by omega⟩
                have Hsu := Lib.hid (accN_succ l (preL f h) h q v hv)
                rw [hv] at haw hab
                have hv102 : v < 102 := by omega
                have hvI : (v : Int) < 102 := by omega
                clear hv
                go_wp2_with (go_at_call 72; (with_reducible refine (haw _ (by (repeat (first | exact Below.refl _ _ | refine Below.alloc ?_ (by first | omega | (simp; done) | (simp; omega)) _ | refine Below.drew ?_ | refine Below.setCell ?_ (by first | omega | (simp; done) | (simp; omega)) _ | refine Below.trans ?_ (Below.mono (by assumption) (by first | omega | (simp; done) | (simp; omega))))))).mono ?_); rintro e w2 ⟨rfl, hb2⟩; have f1 := (cQ.below hb2).frozen v; have g1 := (cQ.below hb2).cell v; rw [setA_get _ v hv102] at g1; have lg := (cQ.below hb2).lt)
                go_roundw
                case rel =>
                  refine ⟨q + 1, by omega, fun h => (by cases h), by go_num, (hB.below hb2).put _ hBn3, ?_⟩
                  have := (cQ.below hb2).set v (.bool true)
                  rw [setA_set] at this
                  rw [Hsu.out]; exact this
                case measure => simp [intOf]; omega
              · obtain rfl : q = cnt := by omega
                have hlt : ¬ l.lo + (q : Int) ≤ l.hi := by omega
                go_wp2
                go_roundw
                case rel => exact ⟨h + 1, by omega, by go_num, hB, by rw [Hp.out, ← accN_all, Hct.out]; exact cQ⟩
                case measure => simp [intOf]; omega
        · obtain rfl : h = 91 := by omega
          rw [accHr_pre l (fun n hn => by have := Hle.out n hn; omega), ← Hlt.out] at cH
          have lH := cH.lt
          go_wp2
          refine wp_load_row 50 (.tmp 7) rfl Bn rfl 50 _ (0, 0) _ cH Try.underlying50 rfl (by rw [setA_size]; kernel_rfl) ?_
          go_step
          go_step
          refine wp_store_row 50 (.tmp 5) (.tmp 56) rfl (w.heap.size + 1 + 1) _ rfl rfl 50 _ hB.c5 (by rw [setA_size]; kernel_rfl) (by rw [setA_size, setA_size]) (setA_one _) ?_
          go_wp2
          go_roundw
          case rel => exact ⟨j + 1, by omega, by go_num, hB.row _⟩
          case measure => simp [intOf]; omega
    · obtain rfl : j = r.legs.length := by omega
      go_wp2
      refine wp_load_row 50 (.tmp 5) rfl (w.heap.size + 1 + 1) rfl 50 _ (0, 0) _ hB.c5 Try.underlying50 rfl (by rw [setA_size]; kernel_rfl) ?_
      go_step
      go_step
      refine wp_store_row 50 (.tmp 4) (.tmp 57) rfl (w.heap.size + 1) _ rfl rfl 50 _ hB.c4 (by rw [setA_size]; kernel_rfl) (by rw [setA_size, setA_size]) (setA_one _) ?_
      go_wp2
      refine bodyPost_ret (v := .agg (setA (legsHr r.legs s r.legs.length))) ?_ rfl ⟨rfl, below_setRow hB.b (by omega) _⟩
      exact results_cell_row rfl _ _ (w.heap.size + 1) 50 _ (0, 0) _ rfl (setRow_heap _ _ _ _ _ _ hB.c4) Try.underlying50 rfl (by rw [setA_size]; kernel_rfl)
end Go.Proofs.Ytfclemnkcpadpaa

namespace Go.Proofs.Ytfclemnkcpadpaa
set_option linter.unusedVariables false
set_option linter.unusedSimpArgs false
set_option linter.unnecessarySimpa false
open Go.RowKit Go.Flow

def endsN (F : Hrs) : Nat → Int × Int
  | 0 => (102, -1)
  | n + 1 => if F n then (min (endsN F n).1 n, (n : Int)) else endsN F n
theorem endsN_yes {F : Hrs} {n : Nat} (h : F n = true) : endsN F (n + 1) = (min (endsN F n).1 n, (n : Int)) := by simp [endsN, h]
theorem endsN_no {F : Hrs} {n : Nat} (h : F n = false) : endsN F (n + 1) = endsN F n := by simp [endsN, h]
/-- Its greatest and its smallest number. -/
theorem endsN_spec {F : Hrs} {lo hi : Nat} (h1 : F lo = true) (h2 : F hi = true) (hl : ∀ n, n ≤ 101 → F n = true → lo ≤ n) (hh : ∀ n, n ≤ 101 → F n = true → n ≤ hi) (hle : hi ≤ 101) : endsN F 102 = ((lo : Int), (hi : Int)) := by
  have key : ∀ n, n ≤ 102 → endsN F n = (if lo < n then (lo : Int) else 102, ((((List.range n).filter F).getLast?.map (fun x : Nat => (x : Int))).getD (-1))) := by
    intro n
    induction n with
    | zero => intro _; simp [endsN]
    | succ n ih =>
      intro hn
      have := ih (by omega)
      cases hf : F n
      · rw [endsN_no hf, this]
        have e : lo ≠ n := fun e => by subst e; rw [h1] at hf; cases hf
        rw [List.range_succ, List.filter_append]
        simp only [List.filter_cons, hf, List.filter_nil, List.append_nil, Bool.false_eq_true, ↓reduceIte]
        congr 1
        split <;> split <;> omega
      · rw [endsN_yes hf, this, List.range_succ, List.filter_append]
        simp only [List.filter_cons, hf, List.filter_nil, ↓reduceIte, List.getLast?_append, List.getLast?_singleton, Option.some_or, Option.map_some, Option.getD_some]
        congr 1
        have := hl n (by omega) hf
        split <;> split <;> omega
  rw [key 102 (Nat.le_refl _)]
  have hlo : lo < 102 := by have := hl hi hle h2; omega
  rw [if_pos hlo]
  congr 1
  have hm : hi ∈ (List.range 102).filter F := by rw [List.mem_filter, List.mem_range]; exact ⟨by omega, h2⟩
  have hs : ((List.range 102).filter F).Pairwise (· < ·) := List.Pairwise.filter _ List.pairwise_lt_range
  have hmem : ∀ n, n ∈ (List.range 102).filter F → n ≤ hi := fun n hn => by rw [List.mem_filter, List.mem_range] at hn; exact hh n (by omega) hn.2
  generalize (List.range 102).filter F = L at hm hs hmem ⊢
  have hL : L ≠ [] := fun e => by subst e; simp at hm
  have hpos := List.length_pos_iff.2 hL
  rw [List.getLast?_eq_some_getLast hL]
  simp only [Option.map_some, Option.getD_some]
  obtain ⟨j, hj, hje⟩ := List.getElem_of_mem hm
  have e1 := hmem _ (List.getLast_mem hL)
  have e2 : hi ≤ L.getLast hL := by
    rw [List.getLast_eq_getElem, ← hje]
    rcases Nat.lt_or_ge j (L.length - 1) with h | h
    · exact Nat.le_of_lt (List.pairwise_iff_getElem.1 hs j _ hj (by omega) h)
    · have e : j = L.length - 1 := by omega
      subst e; exact Nat.le_refl _
  omega

set_option maxRecDepth 100000 in
set_option maxHeartbeats 4000000 in
theorem refEnds_any (F : Hrs) (w : World) :
    Calls Try.prog 35 #[.agg (setA F)] w fun e w' => e = .returned (.tuple #[.agg #[.int .i64 (endsN F 102).1, .int .i64 (endsN F 102).2], .bool (decide (0 ≤ (endsN F 102).2))]) ∧ Below w.heap.size w w' := by
  go_enter Try.func35, Try.ntmps35
  go_wp2
  obtain ⟨W1, hW1⟩ : ∃ z : World, z = ((w.alloc (.cells (setA F) 50)).alloc (.cells #[.int .i64 0, .int .i64 0] 64)).alloc (.cells #[.int .i64 102, .int .i64 (-1)] 64) := ⟨_, rfl⟩
  have C1 : Cells W1 w.heap.size (setA F) 50 := by rw [hW1]; exact ((Cells.new _ _ _).alloc _).alloc _
  have R1 : Cells W1 (w.heap.size + 1) #[.int .i64 0, .int .i64 0] 64 := by rw [hW1]; exact (Cells.new' _ _ _ _ (by simp)).alloc _
  have O1 : Cells W1 (w.heap.size + 1 + 1) #[.int .i64 102, .int .i64 (-1)] 64 := by rw [hW1]; exact Cells.new' _ _ _ _ (by simp)
  have t1 : Below w.heap.size w W1 := by rw [hW1]; exact (((Below.refl _ _).alloc (Nat.le_refl _) _).alloc (by simp) _).alloc (by simp; omega) _
  rw [← hW1]
  clear hW1
  go_loopw [5] (fun x wr => ∃ n : Nat, n ≤ 102 ∧ x = .int .i64 n ∧ Cells wr w.heap.size (setA F) 50 ∧ Cells wr (w.heap.size + 1) #[.int .i64 0, .int .i64 0] 64 ∧ Cells wr (w.heap.size + 1 + 1) #[.int .i64 (endsN F n).1, .int .i64 (endsN F n).2] 64 ∧ Below w.heap.size w wr) (fun x _ => 102 - (intOf x).toNat)
  case atStart => exact ⟨0, by omega, rfl, C1, R1, O1, t1⟩
  case round =>
    obtain ⟨n, hn, rfl, C, R, O, t⟩ := hrel
    clear C1 R1 O1 t1
    have o0 := O.cell 0
    have o1 := O.cell 1
    have y0 := O.frozen 0
    have y1 := O.frozen 1
    have lO := O.lt
    simp at o0 o1
    by_cases hnl : n ≤ 101
    · have hnI : (n : Int) ≤ 101 := by omega
      have cn := C.cell n
      rw [setA_get F n (by omega)] at cn
      have lC := C.lt
      cases hf : F n
      · rw [hf] at cn
        have Hs := Lib.hid (endsN_no hf)
        clear hf
        go_wp2
        go_roundw
        case rel => exact ⟨n + 1, by omega, by go_num, C, R, by rw [Hs.out]; exact O, t⟩
        case measure => simp [intOf]; omega
      · rw [hf] at cn
        have Hs := Lib.hid (endsN_yes hf)
        obtain ⟨lo, hlo⟩ : ∃ x, (endsN F n).1 = x := ⟨_, rfl⟩
        obtain ⟨hi, hhi⟩ : ∃ x, (endsN F n).2 = x := ⟨_, rfl⟩
        rw [hlo] at o0 Hs O
        rw [hhi] at o1 O
        clear hf hlo hhi
        go_wp2
        all_goals
          go_roundw
          case rel =>
            refine ⟨n + 1, by omega, by go_num, ?_, ?_, ?_, (t.setCell (p := ⟨w.heap.size + 1 + 1, 0, none⟩) (show w.heap.size ≤ w.heap.size + 1 + 1 by omega) _).setCell (p := ⟨w.heap.size + 1 + 1, 1, none⟩) (show w.heap.size ≤ w.heap.size + 1 + 1 by omega) _⟩
            · exact ((Below.heap_setCell _ _ _ _ (show w.heap.size ≠ w.heap.size + 1 + 1 by omega)).trans (Below.heap_setCell _ _ _ _ (show w.heap.size ≠ w.heap.size + 1 + 1 by omega))).trans C
            · exact ((Below.heap_setCell _ _ _ _ (show w.heap.size + 1 ≠ w.heap.size + 1 + 1 by omega)).trans (Below.heap_setCell _ _ _ _ (show w.heap.size + 1 ≠ w.heap.size + 1 + 1 by omega))).trans R
            · rw [Hs.out, show min lo (n : Int) = if (n : Int) < lo then (n : Int) else lo by split <;> omega]
              exact (O.set 0 _).set 1 _
          case measure => simp [intOf]; omega
    · obtain rfl : n = 102 := by omega
      have r0 := R.cell 0
      have r1 := R.cell 1
      have f0 := R.frozen 0
      have f1 := R.frozen 1
      have lR := R.lt
      simp at r0 r1
      obtain ⟨lo, hlo⟩ : ∃ x, (endsN F 102).1 = x := ⟨_, rfl⟩
      obtain ⟨hi, hhi⟩ : ∃ x, (endsN F 102).2 = x := ⟨_, rfl⟩
      rw [hlo] at o0 O
      rw [hhi] at o1 O
      have Hlo := Lib.hid hlo
      have Hhi := Lib.hid hhi
      clear hlo hhi
      go_wp2
      go_region
      go_wp2
      obtain ⟨W9, hW9⟩ : ∃ z : World, z = ((wr.setCell ⟨w.heap.size + 1, 0, none⟩ (.int .i64 lo)).setCell ⟨w.heap.size + 1, 1, none⟩ (.int .i64 hi)).drew := ⟨_, rfl⟩
      have C9 : Cells W9 (w.heap.size + 1) #[.int .i64 lo, .int .i64 hi] 64 := by rw [hW9]; exact (R.set 0 _).set 1 _
      have t9 : Below w.heap.size w W9 := by rw [hW9]; exact ((t.setCell (p := ⟨w.heap.size + 1, 0, none⟩) (show w.heap.size ≤ w.heap.size + 1 by omega) _).setCell (p := ⟨w.heap.size + 1, 1, none⟩) (show w.heap.size ≤ w.heap.size + 1 by omega) _).drew
      rw [← hW9]
      clear hW9
      have hl := run_loadVar_row (P := Try.prog) W9 _ 64 64 _ (0, 0) _ C9 Try.underlying64 rfl (by kernel_rfl)
      refine bodyPost_ret (v := .tuple #[.agg #[.int .i64 lo, .int .i64 hi], .bool (decide (0 ≤ hi))]) ?_ rfl ⟨by rw [Hlo.out, Hhi.out], t9⟩
      simp [results, Try.results35, asAddr, Result.andThen, hl]
end Go.Proofs.Ytfclemnkcpadpaa

namespace Go.Proofs.Ytfclemnkcpadpaa
set_option linter.unusedVariables false
set_option linter.unusedSimpArgs false
set_option linter.unnecessarySimpa false
open Go.RowKit Go.Flow Go.Shelf

theorem setA_put (f : Hrs) (m : Nat) (x : Bool) : (setA f).setIfInBounds m (.bool x) = setA (fun n => if n = m then x else f n) := by
  unfold setA
  rw [List.setIfInBounds_toArray]
  congr 1
  apply List.ext_getElem
  · simp
  · intro i h1 h2
    simp only [List.getElem_set, List.getElem_map, List.getElem_range]
    by_cases e : m = i
    · simp [e]
    · rw [if_neg e, if_neg (Ne.symm e)]
def rowC (f g : Hrs) (a : Nat) : Hrs := fun h => (List.range a).any fun a => f a && (List.range 102).any fun b => g b && decide (min a b = h)
def celC (f g : Hrs) (a b : Nat) : Hrs := fun h => rowC f g a h || (f a && (List.range b).any fun b => g b && decide (min a b = h))
theorem rowC_zero (f g : Hrs) : rowC f g 0 = noHr := rfl
theorem celC_zero (f g : Hrs) (a : Nat) : celC f g a 0 = rowC f g a := by funext h; simp [celC]
theorem celC_yes {f g : Hrs} {a b : Nat} (hf : f a = true) (hg : g b = true) : celC f g a (b + 1) = fun h => celC f g a b h || h == min a b := by
  funext h
  unfold celC
  rw [List.range_succ, List.any_append, hf, Bool.true_and, Bool.true_and, ← Bool.or_assoc]
  congr 1
  simp only [List.any_cons, List.any_nil, Bool.or_false, hg, Bool.true_and]
  rw [Bool.eq_iff_iff]
  simp only [decide_eq_true_eq, beq_iff_eq]
  exact eq_comm
theorem celC_no {f g : Hrs} {a b : Nat} (hg : g b = false) : celC f g a (b + 1) = celC f g a b := by
  funext h
  unfold celC
  rw [List.range_succ, List.any_append]
  simp [hg]
theorem celC_all (f g : Hrs) (a : Nat) : celC f g a 102 = rowC f g (a + 1) := by
  funext h
  unfold celC rowC
  rw [show List.range (a + 1) = List.range a ++ [a] from List.range_succ, List.any_append]
  simp only [List.any_cons, List.any_nil, Bool.or_false]
theorem celC_off {f g : Hrs} {a : Nat} (hf : f a = false) : rowC f g a = rowC f g (a + 1) := by
  rw [← celC_all, ← celC_zero]
  funext h
  unfold celC
  rw [hf, Bool.false_and, Bool.false_and]
theorem rowC_com (p : Post) (i k : Nat) : rowC (comN p i k) (byF p i k) 102 = comN p i (k + 1) := rfl

structure CoB (w : World) (a : Option Addr) (c : Nat) (ar : Option Addr) (cr : Nat) (p : Post) (f : Hrs) (W : World) : Prop where
  b : Below w.heap.size w W
  c2 : Cells W w.heap.size #[.slice a p.sends.length c, .slice ar p.routes.length cr, .int .i64 p.pat] 25
  c4 : Cells W (w.heap.size + 1) (setA noHr) 50
  c5 : Cells W (w.heap.size + 1 + 1) (setA f) 50
theorem CoB.below {w : World} {a : Option Addr} {c : Nat} {ar : Option Addr} {cr : Nat} {p : Post} {f : Hrs} {W W' : World} (h : CoB w a c ar cr p f W) (hb : Below W.heap.size W W') : CoB w a c ar cr p f W' :=
  ⟨h.b.trans (hb.mono h.b.size), h.c2.below hb, h.c4.below hb, h.c5.below hb⟩
theorem CoB.put {w : World} {a : Option Addr} {c : Nat} {ar : Option Addr} {cr : Nat} {p : Post} {f : Hrs} {W : World} (h : CoB w a c ar cr p f W) {B v : Nat} (x : Value) (hB : w.heap.size + 3 ≤ B) : CoB w a c ar cr p f (W.setCell ⟨B, v, none⟩ x) :=
  ⟨h.b.setCell (p := ⟨B, v, none⟩) (show w.heap.size ≤ B by omega) _, (Below.heap_setCell W ⟨B, v, none⟩ x _ (show w.heap.size ≠ B by omega)).trans h.c2, (Below.heap_setCell W ⟨B, v, none⟩ x _ (show w.heap.size + 1 ≠ B by omega)).trans h.c4, (Below.heap_setCell W ⟨B, v, none⟩ x _ (show w.heap.size + 1 + 1 ≠ B by omega)).trans h.c5⟩
theorem CoB.row {w : World} {a : Option Addr} {c : Nat} {ar : Option Addr} {cr : Nat} {p : Post} {f : Hrs} {W : World} (h : CoB w a c ar cr p f W) (g : Hrs) : CoB w a c ar cr p g (W.setRow (w.heap.size + 1 + 1) (setA g)) :=
  ⟨below_setRow h.b (by omega) _, (setRow_other W _ _ _ (by omega)).trans h.c2, (setRow_other W _ _ _ (by omega)).trans h.c4, setRow_heap W _ _ _ _ _ h.c5⟩
theorem CoB.rowAt {w : World} {a : Option Addr} {c : Nat} {ar : Option Addr} {cr : Nat} {p : Post} {f : Hrs} {W : World} (h : CoB w a c ar cr p f W) {B : Nat} (cs : Array Value) (hB : w.heap.size + 3 ≤ B) : CoB w a c ar cr p f (W.setRow B cs) :=
  ⟨below_setRow h.b (by omega) _, (setRow_other W _ _ _ (by omega)).trans h.c2, (setRow_other W _ _ _ (by omega)).trans h.c4, (setRow_other W _ _ _ (by omega)).trans h.c5⟩
theorem Cells.elseB {W : World} {B B' v : Nat} {cs : Array Value} {T : TypeId} (h : Cells W B cs T) (x : Value) (hB : B ≠ B') : Cells (W.setCell ⟨B', v, none⟩ x) B cs T := (Below.heap_setCell W ⟨B', v, none⟩ x _ hB).trans h

set_option maxRecDepth 100000 in
set_option maxHeartbeats 8000000 in
theorem refComings_any (a : Option Addr) (c : Nat) (ar : Option Addr) (cr : Nat) (p : Post) (i : Nat) (w : World) (hs : IntsAt w a p.sends) (hr : RoutesAt w ar p.routes) (h0 : postErr p = 0) (hi : i < p.sends.length) :
    Calls Try.prog 77 #[.agg #[.slice a p.sends.length c, .slice ar p.routes.length cr, .int .i64 p.pat], .int .i64 (i : Int)] w fun e w' => e = .returned (.agg (setA (comF p i))) ∧ Below w.heap.size w w' := by
  have hhs := Lib.hid (post_hours h0)
  have HLG := Lib.hid (post_legs h0)
  have lS := (postErr_ok h0).1
  have lR := (postErr_ok h0).2.1
  clear h0
  have zs : Try.zeroCells50 = setA noHr := by kernel_rfl
  have Hzs := Lib.hid zs
  have g0 : (Try.zeroCells50)[101]? = some (.bool false) := by rw [zs]; exact setA_get noHr 101 (by omega)
  clear zs
  have hiI : (i : Int) < (p.sends.length : Int) := by omega
  obtain ⟨bS, offS, rfl, hbS, s0⟩ := hs i hi
  have s0' : w.cell? ⟨bS, offS + i, none⟩ = some (.int .i64 p.sends[i]) := s0.trans (by simp [hi])
  have sb := hhs.out.s _ (List.getElem_mem hi)
  have Hsg : Hid (p.sends.getD i 0 = p.sends[i]) := Lib.hid (by simp [hi])
  clear s0
  obtain ⟨s, hse⟩ : ∃ s : Nat, p.sends[i] = (s : Int) := ⟨p.sends[i].toNat, by omega⟩
  rw [hse] at s0' sb Hsg
  clear hse
  go_enter Try.func77, Try.ntmps77
  go_wp2
  rw [Hzs.out, setA_set]
  have hone : setA (fun n => noHr n || n == 101) = setA (comN p i 0) := by
    congr 1
  rw [hone]
  clear hone g0
  obtain ⟨W1, hW1⟩ : ∃ z : World, z = (((w.alloc (.cells #[.slice (some ⟨bS, offS, none⟩) p.sends.length c, .slice ar p.routes.length cr, .int .i64 p.pat] 25)).alloc (.cells (setA noHr) 50)).alloc (.cells (setA (comN p i 0)) 50)) := ⟨_, rfl⟩
  have B1 : CoB w (some ⟨bS, offS, none⟩) c ar cr p (comN p i 0) W1 := by
    rw [hW1]
    exact ⟨(((Below.refl _ _).alloc (Nat.le_refl _) _).alloc (by simp) _).alloc (by simp; omega) _, ((Cells.new _ _ _).alloc _).alloc _, (Cells.new' _ _ _ _ (by simp)).alloc _, Cells.new' _ _ _ _ (by simp)⟩
  rw [← hW1]
  clear hW1
  go_loopw [6] (fun x wr => ∃ k : Nat, k ≤ p.routes.length ∧ x = .int .i64 k ∧ CoB w (some ⟨bS, offS, none⟩) c ar cr p (comN p i k) wr) (fun x _ => p.routes.length - (intOf x).toNat)
  case atStart => exact ⟨0, Nat.zero_le _, rfl, B1⟩
  case round =>
    obtain ⟨k, hk, rfl, hB⟩ := hrel
    clear B1
    have q0 := hB.c2.cell 0
    have q1 := hB.c2.cell 1
    have l2 := hB.c2.lt
    simp at q0 q1
    by_cases hkl : k < p.routes.length
    · have hkI : (k : Int) < (p.routes.length : Int) := by omega
      obtain ⟨bR, offR, al, ca, rfl, hbR, e0, e1, eL⟩ := (hr.below hB.b) k hkl
      have s1 := below_cell hB.b s0'
      have ls1 := cell_ltK s1
      have lo := HLG.out p.routes[k] (List.getElem_mem hkl)
      have Hrk : Hid (p.routes[k]? = some p.routes[k]) := Lib.hid (List.getElem?_eq_getElem hkl)
      obtain ⟨r, hrr⟩ : ∃ x, p.routes[k] = x := ⟨_, rfl⟩
      rw [hrr] at e0 e1 eL lo Hrk
      clear hrr
      obtain ⟨ll, lok, las⟩ := lo
      have Hlok := Lib.hid lok
      have Hlas := Lib.hid las
      have hFr : legsHr r.legs s r.legs.length = hrF p i k := by
        unfold legsHr hrF routeHr
        rw [Hrk.out, Hsg.out, List.take_length]; rfl
      have hrf := fun X (b : Below wr.heap.size wr X) => refHours_any al ca r s X (eL.below b) ll Hlok.out Hlas.out (by omega)
      rw [hFr] at hrf
      have hby : (fun n => if n = 101 then r.lossy else hrF p i k n) = byF p i k := by
        unfold byF lossyK
        rw [Hrk.out]; rfl
      have Hby : Hid ((setA (hrF p i k)).setIfInBounds 101 (.bool r.lossy) = setA (byF p i k)) := Lib.hid (by rw [setA_put, hby])
      have Hrow := Lib.hid (rowC_com p i k)
      have g101 := setA_get (hrF p i k) 101 (by omega)
      obtain ⟨F, hF⟩ : ∃ F, hrF p i k = F := ⟨_, rfl⟩
      obtain ⟨G, hG⟩ : ∃ G, byF p i k = G := ⟨_, rfl⟩
      obtain ⟨f, hf⟩ : ∃ f, comN p i k = f := ⟨_, rfl⟩
      rw [hF] at hrf Hby g101
      rw [hG] at Hby Hrow
      rw [hf] at hB Hrow
      clear hFr hF hG hf hby lok las
      go_wp2_with fail
      (refine wp_region_seq 12 [] [12] 59 [true, true, true, true, true, true, true, true, true, true, true, false] [PtrV wr.heap.size Try.zeroCells50 50] (by kernel_rfl) (by kernel_rfl) rfl (mono_cons (fun v w w' h hb => h.kept hb) mono_nil) ?_; simp only [pickOps, List.filterMap_cons, List.filterMap_nil, List.getElem?_toArray, List.getElem?_cons_succ, List.getElem?_cons_zero]; (repeat (refine wpFl_step _ rfl (fun w => (by go_simp; rfl)) ?_)); refine wpFl_nil ?_; simp only [maskOps, dummy, Act.put, List.setIfInBounds_toArray, List.set_cons_zero, List.set_cons_succ, List.take_succ_cons, List.take_zero, List.drop_succ_cons, List.drop_zero]; (repeat (refine wpQB_step (fun K hK => ?_); go_simp; first | (refine hK _ ?_; clear hK K) | (apply Exists.intro; refine ⟨fun ex => ?_, hK _ ?_⟩; ((go_at_call 30; exact hrf _ ex.below)); clear hK K))); refine wpQB_nil ?_; simp only [relObl2, under, relEnd, and_true, List.nil_append, List.cons_append])
      refine ⟨?_, ?_⟩
      · intro e
        go_simp
        exact ⟨(Below.refl _ _).alloc (Nat.le_refl _) _, e.to.heap.size, rfl, by have := e.size; omega, Cells.new _ _ _⟩
      intro e
      rintro v1 ⟨Be, rfl, hBe, CE⟩
      rw [Hzs.out] at CE
      simp only [Act.put, List.setIfInBounds_toArray, List.set_cons_zero, List.set_cons_succ]
      have he5 := e.below
      obtain ⟨w5, hw5⟩ : ∃ x : World, x = e.to := ⟨_, rfl⟩
      rw [← hw5] at he5 CE ⊢
      clear hw5 e hrf
      have hBe3 : w.heap.size + 3 ≤ Be := by have := hB.c5.lt; omega
      refine wpList_store_row rfl 50 (.tmp 7) (.tmp 29) rfl Be (setA F) rfl rfl 50 (setA noHr) CE (by rw [setA_size]; kernel_rfl) (by rw [setA_size, setA_size]) (setA_one _) ?_
      obtain ⟨w6, hw6⟩ : ∃ x : World, x = w5.setRow Be (setA F) := ⟨_, rfl⟩
      have b6 : Below wr.heap.size wr w6 := by rw [hw6]; exact below_setRow he5 hBe _
      have C6 : Cells w6 Be (setA F) 50 := by rw [hw6]; exact setRow_heap _ _ _ _ _ _ CE
      rw [← hw6]
      clear hw6 he5 CE q0 l2 s1 ls1
      have hB6 := hB.below b6
      have q1 := below_cell b6 q1
      have e1 := below_cell b6 e1
      have le1 := cell_ltK e1
      have l2 := hB6.c2.lt
      have y6 := C6.frozen 101
      have z6 := C6.cell 101
      rw [g101] at z6
      have l6 := C6.lt
      clear hB e0 eL b6 hbR g101
      go_wp2
      rw [Hzs.out]
      obtain ⟨W7, hW7⟩ : ∃ z : World, z = (w6.setCell ⟨Be, 101, none⟩ (.bool r.lossy)).alloc (.cells (setA noHr) 50) := ⟨_, rfl⟩
      have hB7 : CoB w (some ⟨bS, offS, none⟩) c (some ⟨bR, offR, none⟩) cr p f W7 := by rw [hW7]; exact (hB6.put _ hBe3).below ((Below.refl _ _).alloc (Nat.le_refl _) _)
      have CG7 : Cells W7 Be (setA G) 50 := by
        have := C6.set 101 (.bool r.lossy)
        rw [Hby.out] at this
        rw [hW7]; exact this.alloc _
      have cN7 : Cells W7 w6.heap.size (setA noHr) 50 := by rw [hW7]; exact Cells.new' _ _ _ _ (by simp)
      rw [← hW7]
      clear hW7
      obtain ⟨Bn, hBn⟩ : ∃ z : Nat, z = w6.heap.size := ⟨_, rfl⟩
      rw [← hBn] at cN7 l6 ⊢
      have hBn3 : w.heap.size + 3 ≤ Bn := by omega
      have hne : Be ≠ Bn := by omega
      clear hB6 q1 e1 le1 l2 y6 z6 C6 hBn
      go_loopw [9] (fun u wr => ∃ x : Nat, x ≤ 102 ∧ u = .int .i64 x ∧ CoB w (some ⟨bS, offS, none⟩) c (some ⟨bR, offR, none⟩) cr p f wr ∧ Cells wr Be (setA G) 50 ∧ Cells wr Bn (setA (rowC f G x)) 50) (fun u _ => 102 - (intOf u).toNat)
      case atStart => exact ⟨0, by omega, rfl, hB7, CG7, by rw [rowC_zero]; exact cN7⟩
      case round =>
        obtain ⟨x, hx, rfl, hB, cG, cR⟩ := hrel
        clear hB7 CG7 cN7
        by_cases hx1 : x ≤ 101
        · have hxI : (x : Int) ≤ 101 := by omega
          go_wp2
          go_loopw [10] (fun u wr => ∃ y : Nat, y ≤ 102 ∧ (f x = false → y = 0) ∧ u = .int .i64 y ∧ CoB w (some ⟨bS, offS, none⟩) c (some ⟨bR, offR, none⟩) cr p f wr ∧ Cells wr Be (setA G) 50 ∧ Cells wr Bn (setA (celC f G x y)) 50) (fun u _ => 102 - (intOf u).toNat)
          case atStart => exact ⟨0, by omega, fun _ => rfl, rfl, hB, cG, by rw [celC_zero]; exact cR⟩
          case round =>
            obtain ⟨y, hy, hyf, rfl, hB, cG, cQ⟩ := hrel
            clear cR
            have n5 := hB.c5.cell x
            rw [setA_get f x (by omega)] at n5
            have l5 := hB.c5.lt
            have Hyf := Lib.hid hyf
            clear hyf
            cases hf : f x
            · obtain rfl := Hyf.out hf
              rw [hf] at n5
              have Hp := Lib.hid (celC_off (g := G) hf)
              clear hf
              go_wp2
              go_roundw
              case rel => exact ⟨x + 1, by omega, by go_num, hB, cG, by rw [← Hp.out, ← celC_zero]; exact cQ⟩
              case measure => simp [intOf]; omega
            · rw [hf] at n5
              have Hf := Lib.hid hf
              clear hf
              by_cases hy1 : y ≤ 101
              · have hyI : (y : Int) ≤ 101 := by omega
                have m1 := cG.cell y
                rw [setA_get G y (by omega)] at m1
                have lG := cG.lt
                cases hg : G y
                · rw [hg] at m1
                  have Hp := Lib.hid (celC_no (f := f) (a := x) hg)
                  clear hg
                  go_wp2
                  go_roundw
                  case rel => exact ⟨y + 1, by omega, fun h => (by cases h), by go_num, hB, cG, by rw [Hp.out]; exact cQ⟩
                  case measure => simp [intOf]; omega
                · rw [hg] at m1
                  have Hp := Lib.hid (celC_yes Hf.out hg)
                  clear hg
                  have lQ := cQ.lt
                  by_cases hxy : (y : Int) < (x : Int)
                  · have Hm : Hid (min x y = y) := Lib.hid (by omega)
                    have f1 := cQ.frozen y
                    have g1 := cQ.cell y
                    rw [setA_get _ y (by omega)] at g1
                    go_wp2
                    go_roundw
                    case rel =>
                      refine ⟨y + 1, by omega, fun h => (by cases h), by go_num, hB.put _ hBn3, cG.elseB _ hne, ?_⟩
                      have := cQ.set y (.bool true)
                      rw [setA_set] at this
                      rw [Hp.out, Hm.out]; exact this
                    case measure => simp [intOf]; omega
                  · have Hm : Hid (min x y = x) := Lib.hid (by omega)
                    have f1 := cQ.frozen x
                    have g1 := cQ.cell x
                    rw [setA_get _ x (by omega)] at g1
                    go_wp2
                    go_roundw
                    case rel =>
                      refine ⟨y + 1, by omega, fun h => (by cases h), by go_num, hB.put _ hBn3, cG.elseB _ hne, ?_⟩
                      have := cQ.set x (.bool true)
                      rw [setA_set] at this
                      rw [Hp.out, Hm.out]; exact this
                    case measure => simp [intOf]; omega
              · obtain rfl : y = 102 := by omega
                have Hp := Lib.hid (celC_all f G x)
                go_wp2
                go_roundw
                case rel => exact ⟨x + 1, by omega, by go_num, hB, cG, by rw [← Hp.out]; exact cQ⟩
                case measure => simp [intOf]; omega
        · obtain rfl : x = 102 := by omega
          rw [Hrow.out] at cR
          have lR := cR.lt
          go_wp2
          refine wp_load_row 50 (.tmp 8) rfl Bn rfl 50 _ (0, 0) _ cR Try.underlying50 rfl (by rw [setA_size]; kernel_rfl) ?_
          go_step
          go_step
          refine wp_store_row 50 (.tmp 5) (.tmp 57) rfl (w.heap.size + 1 + 1) _ rfl rfl 50 _ hB.c5 (by rw [setA_size]; kernel_rfl) (by rw [setA_size, setA_size]) (setA_one _) ?_
          go_wp2
          go_roundw
          case rel => exact ⟨k + 1, by omega, by go_num, hB.row _⟩
          case measure => simp [intOf]; omega
    · obtain rfl : k = p.routes.length := by omega
      go_wp2
      refine wp_load_row 50 (.tmp 5) rfl (w.heap.size + 1 + 1) rfl 50 _ (0, 0) _ hB.c5 Try.underlying50 rfl (by rw [setA_size]; kernel_rfl) ?_
      go_step
      go_step
      refine wp_store_row 50 (.tmp 4) (.tmp 58) rfl (w.heap.size + 1) _ rfl rfl 50 _ hB.c4 (by rw [setA_size]; kernel_rfl) (by rw [setA_size, setA_size]) (setA_one _) ?_
      go_wp2
      refine bodyPost_ret (v := .agg (setA (comF p i))) ?_ rfl ⟨rfl, below_setRow hB.b (by omega) _⟩
      exact results_cell_row rfl _ _ (w.heap.size + 1) 50 _ (0, 0) _ rfl (setRow_heap _ _ _ _ _ _ hB.c4) Try.underlying50 rfl (by rw [setA_size]; kernel_rfl)
end Go.Proofs.Ytfclemnkcpadpaa
