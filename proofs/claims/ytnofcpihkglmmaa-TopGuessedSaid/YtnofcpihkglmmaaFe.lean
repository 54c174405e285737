/- flash: rows; the row of nothing that is sent -/
import Derived.Test.YtnofcpihkglmmaaFb
import Derived.Test.YtnofcpihkglmmaaFd
import Derived.Laws.Rows
import Derived.Laws.CopyOwn
import Derived.Laws.Tables
import Derived.Deep.Cut
namespace Go.Proofs.Ytnofcpihkglmmaa
set_option linter.unusedVariables false
set_option linter.unusedSimpArgs false
set_option linter.unnecessarySimpa false
open Go.RowKit Go.Flow

def rowA (f : Nat → Int) : Array Value := ((List.range 41).map fun k => Value.int .i64 (f k)).toArray
theorem rowA_size (f : Nat → Int) : (rowA f).size = 41 := by simp [rowA]
theorem rowA_get (f : Nat → Int) {k : Nat} (hk : k < 41) : (rowA f)[k]? = some (.int .i64 (f k)) := by simp [rowA, hk]
theorem rowA_ext {f g : Nat → Int} (h : ∀ k, k < 41 → f k = g k) : rowA f = rowA g := by
  unfold rowA
  congr 1
  exact List.map_congr_left fun k hk => by rw [h k (List.mem_range.1 hk)]
theorem rowA_set (f : Nat → Int) {k : Nat} (hk : k < 41) (v : Int) : (rowA f).setIfInBounds k (.int .i64 v) = rowA (fun j => if j = k then v else f j) := by
  apply Array.ext_getElem?
  intro j
  rw [Array.getElem?_setIfInBounds, rowA_size]
  by_cases h : k = j
  · subst h
    rw [if_pos rfl, if_pos hk, rowA_get _ hk, if_pos rfl]
  · rw [if_neg h]
    by_cases hj : j < 41
    · rw [rowA_get _ hj, rowA_get _ hj, if_neg (Ne.symm h)]
    · rw [Array.getElem?_eq_none (by rw [rowA_size]; omega), Array.getElem?_eq_none (by rw [rowA_size]; omega)]
theorem rowA_one (f : Nat → Int) : ((rowA f).all fun x => x.oneCell') = true := by
  rw [← Array.all_toList, List.all_eq_true]
  intro v hv
  simp only [rowA, List.mem_map] at hv
  obtain ⟨k, _, rfl⟩ := hv
  rfl
def farI : Int := 1048576
/-- The row of nothing that is sent. -/
def begF (L : List UInt8) : Nat → Int
  | 0 => 0
  | k + 1 => if (decide (k + 1 ≤ L.length) && L.getD k 0 == 32) = true then min 1048576 (begF L k + 1) else 1048576
theorem begF_bd (L : List UInt8) : ∀ k, 0 ≤ begF L k ∧ begF L k ≤ 1048576
  | 0 => by simp [begF]
  | k + 1 => by
    have ih := begF_bd L k
    rw [begF]
    split <;> omega
section
variable (a : Option Addr) (n c : Nat) (s : ByteArray) (errs : Int) (w : World)
set_option maxRecDepth 100000 in
set_option maxHeartbeats 2000000 in
theorem begun_any : Calls Try.prog 78 #[.agg #[.slice a n c, .string s, .int .i64 errs]] w fun e w' => e = .returned (.agg (rowA (begF s.data.toList))) ∧ Below w.heap.size w w' := by
  obtain ⟨L, hL⟩ : ∃ L, s.data.toList = L := ⟨_, rfl⟩
  have hLs : L.length = s.size := by rw [← hL]; simp
  rw [hL]
  have HL := Lib.hid hL
  have HLs := Lib.hid hLs
  clear hL hLs
  go_enter Try.func78, Try.ntmps78
  go_wp2
  obtain ⟨W0, hW0⟩ : ∃ z : World, z = (w.alloc (.cells #[.slice a n c, .string s, .int .i64 errs] 99)).alloc (.cells #[.int .i64 0, .int .i64 0, .int .i64 0, .int .i64 0, .int .i64 0, .int .i64 0, .int .i64 0, .int .i64 0, .int .i64 0, .int .i64 0, .int .i64 0, .int .i64 0, .int .i64 0, .int .i64 0, .int .i64 0, .int .i64 0, .int .i64 0, .int .i64 0, .int .i64 0, .int .i64 0, .int .i64 0, .int .i64 0, .int .i64 0, .int .i64 0, .int .i64 0, .int .i64 0, .int .i64 0, .int .i64 0, .int .i64 0, .int .i64 0, .int .i64 0, .int .i64 0, .int .i64 0, .int .i64 0, .int .i64 0, .int .i64 0, .int .i64 0, .int .i64 0, .int .i64 0, .int .i64 0, .int .i64 0] 121) := ⟨_, rfl⟩
  have b0 : Below w.heap.size w W0 := by rw [hW0]; (repeat (first | exact Below.refl _ _ | refine Below.alloc ?_ (by first | omega | (simp; done) | (simp; omega)) _ | refine Below.drew ?_ | refine Below.setCell ?_ (by first | omega | (simp; done) | (simp; omega)) _ | refine Below.trans ?_ (Below.mono (by assumption) (by first | omega | (simp; done) | (simp; omega)))))
  have C0 : Cells W0 (w.heap.size + 1) (rowA (fun j => if j < 1 then begF L j else 0)) 121 := by
    have e : (#[.int .i64 0, .int .i64 0, .int .i64 0, .int .i64 0, .int .i64 0, .int .i64 0, .int .i64 0, .int .i64 0, .int .i64 0, .int .i64 0, .int .i64 0, .int .i64 0, .int .i64 0, .int .i64 0, .int .i64 0, .int .i64 0, .int .i64 0, .int .i64 0, .int .i64 0, .int .i64 0, .int .i64 0, .int .i64 0, .int .i64 0, .int .i64 0, .int .i64 0, .int .i64 0, .int .i64 0, .int .i64 0, .int .i64 0, .int .i64 0, .int .i64 0, .int .i64 0, .int .i64 0, .int .i64 0, .int .i64 0, .int .i64 0, .int .i64 0, .int .i64 0, .int .i64 0, .int .i64 0, .int .i64 0] : Array Value) = rowA (fun j => if j < 1 then begF L j else 0) := by
      rw [rowA_ext (g := fun _ => 0) (fun k hk => by
        by_cases h : k < 1
        · rw [if_pos h]; obtain rfl : k = 0 := (by omega); rfl
        · rw [if_neg h])]
      kernel_rfl
    rw [hW0, ← e]
    exact Cells.new' _ _ _ _ (by simp)
  have K0 : Cells W0 w.heap.size #[.slice a n c, .string s, .int .i64 errs] 99 := by rw [hW0]; exact (Cells.new _ _ _).alloc _
  rw [← hW0]
  clear hW0
  go_loopw [3] (fun u X => ∃ k : Nat, 1 ≤ k ∧ k ≤ 41 ∧ u = .int .i64 k ∧ Below w.heap.size w X ∧ Cells X (w.heap.size + 1) (rowA (fun j => if j < k then begF L j else 0)) 121 ∧ Cells X w.heap.size #[.slice a n c, .string s, .int .i64 errs] 99) (fun u _ => 41 - (intOf u).toNat)
  case atStart => exact ⟨1, Nat.le_refl _, by omega, rfl, b0, C0, K0⟩
  case round =>
    obtain ⟨k, h1, h41, rfl, hb, CR, CT⟩ := hrel
    rename World => X
    have q1 := CT.cell 1
    simp at q1
    have lq := CT.lt
    by_cases hlt : k < 41
    · have hkI : (k : Int) < 41 := by omega
      obtain ⟨j, rfl⟩ : ∃ j, k = j + 1 := ⟨k - 1, by omega⟩
      have f1 := CR.frozen (j + 1)
      have l1 := CR.lt
      have p1 := CR.cell (j + 1)
      rw [rowA_get _ hlt] at p1
      have wj : IntKind.i64.wrap (((j + 1 : Nat) : Int) - 1) = (j : Int) := by rw [IntWalk.i64_in _ (by omega)]; push_cast; omega
      have hv := begF_bd L j
      have hst : begF L (j + 1) = if (decide (j + 1 ≤ L.length) && L.getD j 0 == 32) = true then min 1048576 (begF L j + 1) else 1048576 := rfl
      obtain ⟨v, hve⟩ : ∃ v, begF L j = v := ⟨_, rfl⟩
      obtain ⟨u, hue⟩ : ∃ u, begF L (j + 1) = u := ⟨_, rfl⟩
      rw [hve, hue] at hst
      rw [hve] at hv
      have Hve := Lib.hid hve
      have Hue := Lib.hid hue
      obtain ⟨X1, hX1⟩ : ∃ z : World, z = X.setCell ⟨w.heap.size + 1, j + 1, none⟩ (.int .i64 1048576) := ⟨_, rfl⟩
      have CR1 : Cells X1 (w.heap.size + 1) (rowA (fun i => if i = j + 1 then 1048576 else if i < j + 1 then begF L i else 0)) 121 := by
        rw [hX1, ← rowA_set _ hlt]; exact CR.set _ _
      have hb1 : Below w.heap.size w X1 := by rw [hX1]; exact hb.setCell (p := ⟨w.heap.size + 1, j + 1, none⟩) (by show w.heap.size ≤ w.heap.size + 1; omega) _
      have CT1 : Cells X1 w.heap.size #[.slice a n c, .string s, .int .i64 errs] 99 := by rw [hX1]; exact CT.other (by omega) _ _
      clear hve hue
      go_upto_region 5 with fail
      rw [← hX1]
      clear hX1 CR CT f1 l1 p1 q1 lq hb
      have q1 := CT1.cell 1
      simp at q1
      have lq := CT1.lt
      have row2 : ∀ y : Int, y = u → rowA (fun i => if i = j + 1 then y else if i < j + 1 then begF L i else 0) = rowA (fun i => if i < j + 1 + 1 then begF L i else 0) := fun y hy => rowA_ext fun i hi => by
        by_cases h : i = j + 1
        · subst h; rw [if_pos rfl, if_pos (by omega), hy, Hue.out]
        · rw [if_neg h]
          by_cases h2 : i < j + 1
          · rw [if_pos h2, if_pos (by omega)]
          · rw [if_neg h2, if_neg (by omega)]
      have Hrow := Lib.hid row2
      clear row2
      by_cases hj : j + 1 ≤ s.size
      · have hjs : j < s.size := hj
        have hji : (j : Int) + 1 ≤ (s.size : Int) := by omega
        have hjl : (j : Int) < (s.size : Int) := by omega
        have hg : L.getD j 0 = s[j] := by
          have := HL.out
          subst this
          rw [List.getD_eq_getElem?_getD, List.getElem?_eq_getElem (by simp; exact hjs)]
          simp
          rfl
        rw [hg, show decide (j + 1 ≤ L.length) = true by rw [HLs.out]; simpa using hj, Bool.true_and] at hst
        cases hB : ((s[j].toNat : Int) == 32)
        · have hu : u = 1048576 := by
            rw [hst, if_neg]
            intro e
            have : s[j] = 32 := by simpa using e
            rw [this] at hB
            simp at hB
          have Hu := Lib.hid hu
          have HBh := Lib.hid hB
          clear hst hu hg
          go_wp2
          go_roundw
          case rel => exact ⟨j + 1 + 1, by omega, by omega, by go_num, hb1, by rw [← Hrow.out _ Hu.out.symm]; exact CR1, CT1⟩
          case measure => simp [intOf]; omega
        · have hu : min 1048576 (v + 1) = u := by
            rw [hst, if_pos]
            have h32 : (s[j].toNat : Int) = 32 := by simpa using hB
            have h33 : s[j].toNat = 32 := by omega
            have h34 : s[j] = 32 := UInt8.toNat_inj.1 h33
            simp [h34]
          have Hu := Lib.hid hu
          have p1 := CR1.cell j
          rw [rowA_get _ (by omega), if_neg (by omega), if_pos (by omega), Hve.out] at p1
          have l1 := CR1.lt
          have wv : IntKind.i64.wrap (v + 1) = v + 1 := IntWalk.i64_in _ (by omega)
          clear hst hu hg
          go_wp2_with fail
          go_at_call 91
          refine (minimum_any _ 1048576 (v + 1) 2 _ (fints_lit _ _ _ _ rfl)).mono ?_
          rintro e _ ⟨rfl, rfl⟩
          obtain ⟨ob, hob⟩ : ∃ o : Obj, o = Obj.cells { toList := Value.int IntKind.i64 1048576 :: List.map (Value.int IntKind.i64) [v + 1] } 3 := ⟨_, rfl⟩
          rw [← hob]
          have b2 : Below X1.heap.size X1 (X1.alloc ob) := (Below.refl _ _).alloc (Nat.le_refl _) _
          obtain ⟨X2, hX2⟩ : ∃ z : World, z = X1.alloc ob := ⟨_, rfl⟩
          rw [← hX2] at b2 ⊢
          have CR2 := CR1.below b2
          have CT2 := CT1.below b2
          have hb2 := hb1.trans (b2.mono hb1.size)
          have q2 := CR2.cell (j + 1)
          have f2 := CR2.frozen (j + 1)
          have l2 := CR2.lt
          rw [rowA_get _ (by omega), if_pos rfl] at q2
          clear hX2 hob b2 q1 lq p1 l1
          go_wp2
          go_roundw
          case rel => exact ⟨j + 1 + 1, by omega, by omega, by go_num, hb2.setCell (p := ⟨w.heap.size + 1, j + 1, none⟩) (by show w.heap.size ≤ w.heap.size + 1; omega) _, by rw [← Hrow.out _ Hu.out, rowA_ext (g := fun i => if i = j + 1 then min 1048576 (v + 1) else (fun i => if i = j + 1 then (1048576 : Int) else if i < j + 1 then begF L i else 0) i) (fun i hi => by by_cases h : i = j + 1 <;> simp [h]), ← rowA_set _ hlt]; exact CR2.set _ _, CT2.other (by omega) _ _⟩
          case measure => simp [intOf]; omega
      · have hji : ¬ (j : Int) + 1 ≤ (s.size : Int) := by omega
        have hu : u = 1048576 := by
          rw [hst, if_neg]
          rw [show decide (j + 1 ≤ L.length) = false by rw [HLs.out]; simpa using hj]
          simp
        have Hu := Lib.hid hu
        clear hst hu
        go_wp2
        go_roundw
        case rel => exact ⟨j + 1 + 1, by omega, by omega, by go_num, hb1, by rw [← Hrow.out _ Hu.out.symm]; exact CR1, CT1⟩
        case measure => simp [intOf]; omega
    · obtain rfl : k = 41 := by omega
      rw [rowA_ext (g := begF L) (fun j hj => by rw [if_pos hj])] at CR
      go_upto_region 7 with fail
      go_step
      go_step
      refine wp_load_row 121 (.tmp 2) rfl (w.heap.size + 1) rfl 121 _ (0, 0) _ CR Try.underlying121 rfl (by rw [rowA_size]; kernel_rfl) ?_
      go_step
      go_step
      refine wp_store_row 121 (.tmp 2) (.tmp 32) rfl (w.heap.size + 1) _ rfl rfl 121 _ CR (by rw [rowA_size]; kernel_rfl) (by rw [rowA_size]) (rowA_one _) ?_
      go_wp2
      refine bodyPost_ret (v := .agg (rowA (begF L))) ?_ rfl ⟨rfl, below_setRow hb (by omega) _⟩
      exact results_cell_row rfl _ _ (w.heap.size + 1) 121 _ (0, 0) _ rfl (setRow_heap _ _ _ _ _ _ CR) Try.underlying121 rfl (by rw [rowA_size]; kernel_rfl)
end
end Go.Proofs.Ytnofcpihkglmmaa
