/- copies' reference: Hours -/
import Derived.Test.YtfclemnkcpadpaaRl
import Derived.Laws.Tables
import Derived.Laws.Rows
import Derived.Laws.CopyOwn
namespace Go.Proofs.Ytfclemnkcpadpaa
set_option linter.unusedVariables false
set_option linter.unusedSimpArgs false
set_option linter.unnecessarySimpa false
open Go.RowKit Go.Flow

/-- A set of the reference's, as a block. -/
def setA (f : Hrs) : Array Value := ((List.range 102).map fun n => Value.bool (f n)).toArray
theorem setA_size (f : Hrs) : (setA f).size = 102 := by simp [setA]
theorem setA_get (f : Hrs) (n : Nat) (h : n < 102) : (setA f)[n]? = some (.bool (f n)) := by
  unfold setA
  rw [List.getElem?_toArray, List.getElem?_map, List.getElem?_range h]; rfl
theorem setA_set (f : Hrs) (m : Nat) : (setA f).setIfInBounds m (.bool true) = setA (fun n => f n || n == m) := by
  unfold setA
  rw [List.setIfInBounds_toArray]
  congr 1
  apply List.ext_getElem
  · simp
  · intro i h1 h2
    simp only [List.getElem_set, List.getElem_map, List.getElem_range]
    by_cases e : m = i
    · simp [e]
    · rw [if_neg e]; simp [Ne.symm e]
theorem setA_one (f : Hrs) : (setA f).all (·.oneCell') = true := by
  rw [Array.all_eq_true]
  intro i hi
  have h : i < 102 := by rw [setA_size] at hi; exact hi
  have := setA_get f i h
  rw [Array.getElem?_eq_getElem hi] at this
  rw [Option.some.inj this]; rfl
def preL (f : Hrs) (h : Nat) : List Nat := (List.range h).filter f
theorem preL_yes {f : Hrs} {h : Nat} (hf : f h = true) : preL f (h + 1) = preL f h ++ [h] := by
  unfold preL; rw [List.range_succ, List.filter_append]; simp [hf]
theorem preL_no {f : Hrs} {h : Nat} (hf : f h = false) : preL f (h + 1) = preL f h := by
  unfold preL; rw [List.range_succ, List.filter_append]; simp [hf]
theorem accHr_pre (l : Leg) {f : Hrs} (hle : HrsLe f 90) : accHr l (preL f 91) = legHr l f := by
  funext m
  unfold accHr legHr preL
  rw [Bool.eq_iff_iff]
  simp only [List.any_eq_true, List.mem_filter, List.mem_range, Bool.and_eq_true, decide_eq_true_eq]
  constructor
  · rintro ⟨h, ⟨h1, h2⟩, h3⟩; exact ⟨h, by omega, h2, h3⟩
  · rintro ⟨h, _, h2, h3⟩; exact ⟨h, ⟨by have := hle h h2; omega, h2⟩, h3⟩

structure HoB (w : World) (al : Option Addr) (ca : Nat) (r : Route) (f : Hrs) (W : World) : Prop where
  b : Below w.heap.size w W
  c2 : Cells W w.heap.size #[.slice al r.legs.length ca, .bool r.lossy] 54
  c4 : Cells W (w.heap.size + 1) (setA noHr) 50
  c5 : Cells W (w.heap.size + 1 + 1) (setA f) 50
theorem HoB.below {w : World} {al : Option Addr} {ca : Nat} {r : Route} {f : Hrs} {W W' : World} (h : HoB w al ca r f W) (hb : Below W.heap.size W W') : HoB w al ca r f W' :=
  ⟨h.b.trans (hb.mono h.b.size), h.c2.below hb, h.c4.below hb, h.c5.below hb⟩
theorem HoB.put {w : World} {al : Option Addr} {ca : Nat} {r : Route} {f : Hrs} {W : World} (h : HoB w al ca r f W) {B v : Nat} (x : Value) (hB : w.heap.size + 3 ≤ B) : HoB w al ca r f (W.setCell ⟨B, v, none⟩ x) :=
  ⟨h.b.setCell (p := ⟨B, v, none⟩) (show w.heap.size ≤ B by omega) _, (Below.heap_setCell W ⟨B, v, none⟩ x _ (show w.heap.size ≠ B by omega)).trans h.c2, (Below.heap_setCell W ⟨B, v, none⟩ x _ (show w.heap.size + 1 ≠ B by omega)).trans h.c4, (Below.heap_setCell W ⟨B, v, none⟩ x _ (show w.heap.size + 1 + 1 ≠ B by omega)).trans h.c5⟩

theorem HoB.row {w : World} {al : Option Addr} {ca : Nat} {r : Route} {f : Hrs} {W : World} (h : HoB w al ca r f W) (g : Hrs) : HoB w al ca r g (W.setRow (w.heap.size + 1 + 1) (setA g)) :=
  ⟨below_setRow h.b (by omega) _, (setRow_other W _ _ _ (by omega)).trans h.c2, (setRow_other W _ _ _ (by omega)).trans h.c4, setRow_heap W _ _ _ _ _ h.c5⟩
set_option maxRecDepth 100000 in
set_option maxHeartbeats 8000000 in
theorem refHours_any (al : Option Addr) (ca : Nat) (r : Route) (s : Nat) (w : World) (hr : LegsAt w al r.legs) (ll : r.legs.length ≤ 3) (hok : r.legs.all legOk = true) (sm : ∀ l ∈ r.legs, l.asl.length ≤ 1000) (hs : s ≤ 30) :
    Calls Try.prog 30 #[.agg #[.slice al r.legs.length ca, .bool r.lossy], .int .i64 s] w fun e w' => e = .returned (.agg (setA (legsHr r.legs s r.legs.length))) ∧ Below w.heap.size w w' := by
  have Hok := Lib.hid hok
  have Hsm := Lib.hid sm
  clear hok sm
  have zs : Try.zeroCells50 = setA noHr := by kernel_rfl
  have Hzs := Lib.hid zs
  have hsI : (s : Int) < 102 := by omega
  have g0 : (Try.zeroCells50)[s]? = some (.bool false) := by rw [zs]; exact setA_get noHr s (by omega)
  clear zs
  go_enter Try.func30, Try.ntmps30
  go_wp2
  rw [Hzs.out, setA_set]
  have hone : setA (fun n => noHr n || n == s) = setA (legsHr r.legs s 0) := by
    congr 1
    funext n
    simp only [legsHr, List.take_zero, List.foldl_nil, noHr, Bool.false_or, oneHr]
    rw [Bool.eq_iff_iff]
    simp only [beq_iff_eq, decide_eq_true_eq]
    omega
  rw [hone]
  clear hone g0 hsI
  obtain ⟨W1, hW1⟩ : ∃ z : World, z = (((w.alloc (.cells #[.slice al r.legs.length ca, .bool r.lossy] 54)).alloc (.cells (setA noHr) 50)).alloc (.cells (setA (legsHr r.legs s 0)) 50)) := ⟨_, rfl⟩
  have B1 : HoB w al ca r (legsHr r.legs s 0) W1 := by
    rw [hW1]
    exact ⟨(((Below.refl _ _).alloc (Nat.le_refl _) _).alloc (by simp) _).alloc (by simp; omega) _, ((Cells.new _ _ _).alloc _).alloc _, (Cells.new' _ _ _ _ (by simp)).alloc _, Cells.new' _ _ _ _ (by simp)⟩
  have z1 : W1.heap.size = w.heap.size + 3 := by rw [hW1]; simp
  rw [← hW1]
  clear hW1
  go_loopw [6] (fun i wr => ∃ j : Nat, j ≤ r.legs.length ∧ i = .int .i64 j ∧ HoB w al ca r (legsHr r.legs s j) wr) (fun i _ => r.legs.length - (intOf i).toNat)
  case atStart => exact ⟨0, Nat.zero_le _, rfl, B1⟩
  case round =>
    obtain ⟨j, hj, rfl, hB⟩ := hrel
    clear B1 z1
    have q0 := hB.c2.cell 0
    have l2 := hB.c2.lt
    simp at q0
    by_cases hjl : j < r.legs.length
    · have hjI : (j : Int) < (r.legs.length : Int) := by omega
      obtain ⟨b6, off6, ar6, c6, rfl, hbl6, K0, K1, K2, HR6⟩ := hr j hjl
      have ltk : legsHr r.legs s (j + 1) = legHr r.legs[j] (legsHr r.legs s j) := by
        unfold legsHr
        rw [List.take_succ_eq_append_getElem hjl, List.foldl_append]; rfl
      have lok := List.all_eq_true.1 Hok.out _ (List.getElem_mem hjl)
      have las := Hsm.out _ (List.getElem_mem hjl)
      have Hle := Lib.hid (legs_le Hok.out ll (s := s) (by omega) j)
      obtain ⟨l, hl⟩ : ∃ l, r.legs[j] = l := ⟨_, rfl⟩
      rw [hl] at K0 K1 K2 HR6 ltk lok las
      have Hlt := Lib.hid ltk
      have lok' := lok
      simp only [legOk, uptoB, Bool.and_eq_true, decide_eq_true_eq] at lok'
      obtain ⟨⟨⟨lo0, lo1⟩, lo2⟩, hasl⟩ := lok'
      have Hasl := Lib.hid hasl
      clear ltk lok hl hasl
      obtain ⟨f, hf⟩ : ∃ f, legsHr r.legs s j = f := ⟨_, rfl⟩
      rw [hf] at hB Hlt Hle
      clear hf
      have hcnt : ((l.hi - l.lo + 1).toNat : Int) = l.hi - l.lo + 1 := by omega
      obtain ⟨cnt, hct⟩ : ∃ cnt, (l.hi - l.lo + 1).toNat = cnt := ⟨_, rfl⟩
      rw [hct] at hcnt
      have hc1 : l.hi - l.lo + 1 ≤ cnt ∧ (cnt : Int) ≤ l.hi - l.lo + 1 := by omega
      have Hct := Lib.hid hct
      clear hct hcnt
      have k0 := below_cell hB.b K0
      have lk := cell_ltK k0
      clear hbl6 k0 lk
      go_wp2
      rw [Hzs.out]
      obtain ⟨W6, hW6⟩ : ∃ z : World, z = wr.alloc (.cells (setA noHr) 50) := ⟨_, rfl⟩
      have b6w : Below wr.heap.size wr W6 := by rw [hW6]; exact (Below.refl _ _).alloc (Nat.le_refl _) _
      have cN : Cells W6 wr.heap.size (setA noHr) 50 := by rw [hW6]; exact Cells.new _ _ _
      rw [← hW6]
      clear hW6
      obtain ⟨Bn, hBn⟩ : ∃ z : Nat, z = wr.heap.size := ⟨_, rfl⟩
      have hBn3 : w.heap.size + 3 ≤ Bn := by have := hB.c5.lt; omega
      have hB6 := hB.below b6w
      rw [← hBn] at cN ⊢
      clear hB q0 l2 b6w hBn
      go_loopw [8] (fun x wr => ∃ h : Nat, h ≤ 91 ∧ x = .int .i64 h ∧ HoB w (some ⟨b6, off6, none⟩) ca r f wr ∧ Cells wr Bn (setA (accHr l (preL f h))) 50) (fun x _ => 91 - (intOf x).toNat)
      case atStart => exact ⟨0, by omega, rfl, hB6, cN⟩
      case round =>
        obtain ⟨h, hh, rfl, hB, cH⟩ := hrel
        clear hB6 cN
        have q0 := hB.c2.cell 0
        have l2 := hB.c2.lt
        simp at q0
        by_cases h90 : h ≤ 90
        · have h90I : (h : Int) ≤ 90 := by omega
          have k0 := below_cell hB.b K0
          have lk := cell_ltK k0
          go_wp2
          clear q0 l2 k0 lk
          go_loopw [9] (fun x wr => ∃ q : Nat, q ≤ cnt ∧ (f h = false → q = 0) ∧ x = .int .i64 (l.lo + q) ∧ HoB w (some ⟨b6, off6, none⟩) ca r f wr ∧ Cells wr Bn (setA (accN l (preL f h) h q)) 50) (fun x _ => cnt - (intOf x - l.lo).toNat)
          case atStart => exact ⟨0, by omega, fun _ => rfl, by go_num, hB, by rw [accN_zero]; exact cH⟩
          case round =>
            obtain ⟨q, hq, hqf, rfl, hB, cQ⟩ := hrel
            clear cH
            have q0 := hB.c2.cell 0
            have l2 := hB.c2.lt
            simp at q0
            have k0 := below_cell hB.b K0
            have k1 := below_cell hB.b K1
            have k2 := below_cell hB.b K2
            have lk := cell_ltK k0
            have n5 := hB.c5.cell h
            rw [setA_get f h (by omega)] at n5
            have l5 := hB.c5.lt
            have hqf' := Lib.hid hqf
            clear hqf
            cases hf : f h
            · obtain rfl := hqf'.out hf
              rw [hf] at n5
              have Hp := Lib.hid (preL_no hf)
              clear hf
              go_wp2
              go_roundw
              case rel => exact ⟨h + 1, by omega, by go_num, hB, by rw [Hp.out]; rw [accN_zero] at cQ; exact cQ⟩
              case measure => simp [intOf]; omega
            · rw [hf] at n5
              have Hp := Lib.hid (preL_yes hf)
              have Hf := Lib.hid hf
              clear hf
              by_cases hqc : q < cnt
              · have hlt : l.lo + (q : Int) ≤ l.hi := by omega
                have h48 := Hle.out h (by have := n5; exact Hf.out)
                have hw1 : IntKind.i64.wrap ((h : Int) + (l.lo + (q : Int))) = (h : Int) + l.lo + q := by rw [← Int.add_assoc]; exact IntWalk.i64_in _ (by omega)
                have haw : ∀ W, Below wr.heap.size wr W → Calls Try.prog 72 #[.agg #[.int .i64 l.lo, .int .i64 l.hi, .slice ar6 l.asl.length c6], .int .i64 ((h : Int) + l.lo + q)] W fun e w' => e = .returned (.int .i64 (awk l ((h : Int) + l.lo + q))) ∧ Below W.heap.size W w' :=
                  fun W b => refAwake_any ar6 c6 l ((h : Int) + l.lo + q) W ((HR6.below hB.b).below b) las Hasl.out (by omega) (by omega)
                have hab := awk_bd l ((h : Int) + l.lo + q)
                obtain ⟨v, hv⟩ : ∃ v : Nat, awk l ((h : Int) + l.lo + q) = v := ⟨(awk l ((h : Int) + l.lo + q)).toNat, by omega⟩
                have Hsu := Lib.hid (accN_succ l (preL f h) h q v hv)
                rw [hv] at haw hab
                have hv102 : v < 102 := by omega
                have hvI : (v : Int) < 102 := by omega
                clear hv
                go_wp2_with (go_at_call 72; (with_reducible refine (haw _ (by (repeat (first | exact Below.refl _ _ | refine Below.alloc ?_ (by first | omega | (simp; done) | (simp; omega)) _ | refine Below.drew ?_ | refine Below.setCell ?_ (by first | omega | (simp; done) | (simp; omega)) _ | refine Below.trans ?_ (Below.mono (by assumption) (by first | omega | (simp; done) | (simp; omega))))))).mono ?_); rintro e w2 ⟨rfl, hb2⟩; have f1 := (cQ.below hb2).frozen v; have g1 := (cQ.below hb2).cell v; rw [setA_get _ v hv102] at g1; have lg := (cQ.below hb2).lt)
                go_roundw
                case rel =>
                  refine ⟨q + 1, by omega, fun h => (by cases h), by go_num, (hB.below hb2).put _ hBn3, ?_⟩
                  have := (cQ.below hb2).set v (.bool true)
                  rw [setA_set] at this
                  rw [Hsu.out]; exact this
                case measure => simp [intOf]; omega
              · obtain rfl : q = cnt := by omega
                have hlt : ¬ l.lo + (q : Int) ≤ l.hi := by omega
                go_wp2
                go_roundw
                case rel => exact ⟨h + 1, by omega, by go_num, hB, by rw [Hp.out, ← accN_all, Hct.out]; exact cQ⟩
                case measure => simp [intOf]; omega
        · obtain rfl : h = 91 := by omega
          rw [accHr_pre l (fun n hn => by have := Hle.out n hn; omega), ← Hlt.out] at cH
          have lH := cH.lt
          go_wp2
          refine wp_load_row 50 (.tmp 7) rfl Bn rfl 50 _ (0, 0) _ cH Try.underlying50 rfl (by rw [setA_size]; kernel_rfl) ?_
          go_step
          go_step
          refine wp_store_row 50 (.tmp 5) (.tmp 56) rfl (w.heap.size + 1 + 1) _ rfl rfl 50 _ hB.c5 (by rw [setA_size]; kernel_rfl) (by rw [setA_size, setA_size]) (setA_one _) ?_
          go_wp2
          go_roundw
          case rel => exact ⟨j + 1, by omega, by go_num, hB.row _⟩
          case measure => simp [intOf]; omega
    · obtain rfl : j = r.legs.length := by omega
      go_wp2
      refine wp_load_row 50 (.tmp 5) rfl (w.heap.size + 1 + 1) rfl 50 _ (0, 0) _ hB.c5 Try.underlying50 rfl (by rw [setA_size]; kernel_rfl) ?_
      go_step
      go_step
      refine wp_store_row 50 (.tmp 4) (.tmp 57) rfl (w.heap.size + 1) _ rfl rfl 50 _ hB.c4 (by rw [setA_size]; kernel_rfl) (by rw [setA_size, setA_size]) (setA_one _) ?_
      go_wp2
      refine bodyPost_ret (v := .agg (setA (legsHr r.legs s r.legs.length))) ?_ rfl ⟨rfl, below_setRow hB.b (by omega) _⟩
      exact results_cell_row rfl _ _ (w.heap.size + 1) 50 _ (0, 0) _ rfl (setRow_heap _ _ _ _ _ _ hB.c4) Try.underlying50 rfl (by rw [setA_size]; kernel_rfl)
end Go.Proofs.Ytfclemnkcpadpaa
