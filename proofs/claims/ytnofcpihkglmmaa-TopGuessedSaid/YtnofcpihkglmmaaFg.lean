/- flash: sign the row behind one more sign -/
import Derived.Test.YtnofcpihkglmmaaFf
import Derived.Deep.DeepCutAuto
import Derived.Test.YtnofcpihkglmmaaCel
import Derived.Test.YtnofcpihkglmmaaFlo
namespace Go.Proofs.Ytnofcpihkglmmaa
set_option linter.unusedVariables false
set_option linter.unusedSimpArgs false
set_option linter.unnecessarySimpa false
open Go.RowKit Go.Flow
theorem zero_row : (#[.int .i64 0, .int .i64 0, .int .i64 0, .int .i64 0, .int .i64 0, .int .i64 0, .int .i64 0, .int .i64 0, .int .i64 0, .int .i64 0, .int .i64 0, .int .i64 0, .int .i64 0, .int .i64 0, .int .i64 0, .int .i64 0, .int .i64 0, .int .i64 0, .int .i64 0, .int .i64 0, .int .i64 0, .int .i64 0, .int .i64 0, .int .i64 0, .int .i64 0, .int .i64 0, .int .i64 0, .int .i64 0, .int .i64 0, .int .i64 0, .int .i64 0, .int .i64 0, .int .i64 0, .int .i64 0, .int .i64 0, .int .i64 0, .int .i64 0, .int .i64 0, .int .i64 0, .int .i64 0, .int .i64 0] : Array Value) = rowA (fun _ => 0) := by kernel_rfl
theorem row_upd {X : World} {B k : Nat} {old : Int} {f : Nat → Int} {T : TypeId} (h : Cells X B (rowA (fun i => if i = k then old else f i)) T) (hk : k < 41) (new : Int) : Cells (X.setCell ⟨B, k, none⟩ (.int .i64 new)) B (rowA (fun i => if i = k then new else f i)) T := by
  rw [rowA_ext (g := fun i => if i = k then new else (fun i => if i = k then old else f i) i) (fun i hi => by by_cases h : i = k <;> simp [h]), ← rowA_set _ hk]
  exact h.set _ _
theorem u8_eq (x : UInt8) (n : Nat) (hn : n < 256) : ((x.toNat : Int) == (n : Int)) = (x == UInt8.ofNat n) := by
  rw [Bool.eq_iff_iff]
  simp only [beq_iff_eq, ← UInt8.toNat_inj, UInt8.toNat_ofNat']
  omega
theorem ext_two (s : ByteArray) (j : Nat) (h : j + 1 < s.size) : (s.extract j (j + 1 + 1)).toList = [s[j], s[j + 1]] := by
  rw [ByteArray.toList_eq]
  apply List.ext_getElem?
  intro i
  have hs : s.data.size = s.size := rfl
  rcases i with _ | _ | i
  · simp [Lib.extract_data]
    rw [List.getElem?_take, if_pos (by omega), List.getElem?_drop]
    simp [hs]
    exact Array.getElem?_eq_getElem (by omega)
  · simp [Lib.extract_data]
    rw [List.getElem?_take, if_pos (by omega), List.getElem?_drop]
    simp [hs]
    exact Array.getElem?_eq_getElem (by omega)
  · simp [Lib.extract_data]
    omega
section
variable (a : Option Addr) (n c : Nat) (s : ByteArray) (errs : Int) (w : World) (r b : Nat → Int) (hr : RowOk r) (hb : RowOk b) (last sg : UInt8)
include hr hb
set_option maxRecDepth 100000 in
set_option maxHeartbeats 2000000 in
theorem sign_any : Calls Try.prog 90 #[.agg #[.slice a n c, .string s, .int .i64 errs], .agg (rowA r), .agg (rowA b), .int .u8 last.toNat, .int .u8 sg.toNat] w fun e w' => e = .returned (.agg (rowA (sgF s.data.toList r b last sg))) ∧ Below w.heap.size w w' := by
  obtain ⟨L, hL⟩ : ∃ L, s.data.toList = L := ⟨_, rfl⟩
  have hLs : L.length = s.size := by rw [← hL]; simp
  rw [hL]
  have HL := Lib.hid hL
  have HLs := Lib.hid hLs
  have HR := Lib.hid hr
  have HB := Lib.hid hb
  clear hL hLs hr hb
  go_enter Try.func90, Try.ntmps90
  go_wp2
  obtain ⟨W0, hW0⟩ : ∃ z : World, z = (((w.alloc (.cells #[.slice a n c, .string s, .int .i64 errs] 99)).alloc (.cells (rowA r) 121)).alloc (.cells (rowA b) 121)).alloc (.cells #[.int .i64 0, .int .i64 0, .int .i64 0, .int .i64 0, .int .i64 0, .int .i64 0, .int .i64 0, .int .i64 0, .int .i64 0, .int .i64 0, .int .i64 0, .int .i64 0, .int .i64 0, .int .i64 0, .int .i64 0, .int .i64 0, .int .i64 0, .int .i64 0, .int .i64 0, .int .i64 0, .int .i64 0, .int .i64 0, .int .i64 0, .int .i64 0, .int .i64 0, .int .i64 0, .int .i64 0, .int .i64 0, .int .i64 0, .int .i64 0, .int .i64 0, .int .i64 0, .int .i64 0, .int .i64 0, .int .i64 0, .int .i64 0, .int .i64 0, .int .i64 0, .int .i64 0, .int .i64 0, .int .i64 0] 121) := ⟨_, rfl⟩
  have b0 : Below w.heap.size w W0 := by rw [hW0]; (repeat (first | exact Below.refl _ _ | refine Below.alloc ?_ (by first | omega | (simp; done) | (simp; omega)) _ | refine Below.drew ?_ | refine Below.setCell ?_ (by first | omega | (simp; done) | (simp; omega)) _ | refine Below.trans ?_ (Below.mono (by assumption) (by first | omega | (simp; done) | (simp; omega)))))
  have C0 : Cells W0 (w.heap.size + 1 + 1 + 1) (rowA (fun j => if j < 0 then sgF L r b last sg j else 0)) 121 := by
    rw [rowA_ext (g := fun _ => 0) (fun k hk => by rw [if_neg (Nat.not_lt_zero _)]), hW0, zero_row]
    exact Cells.new' _ _ _ _ (by simp)
  have K0 : Cells W0 w.heap.size #[.slice a n c, .string s, .int .i64 errs] 99 := by rw [hW0]; exact (((Cells.new _ _ _).alloc _).alloc _).alloc _
  have R0 : Cells W0 (w.heap.size + 1) (rowA r) 121 := by rw [hW0]; exact ((Cells.new' _ _ _ _ (by simp)).alloc _).alloc _
  have B0 : Cells W0 (w.heap.size + 1 + 1) (rowA b) 121 := by rw [hW0]; exact (Cells.new' _ _ _ _ (by simp)).alloc _
  rw [← hW0]
  clear hW0
  go_loopw [12] (fun u X => ∃ k : Nat, k ≤ 41 ∧ u = .int .i64 k ∧ Below w.heap.size w X ∧ Cells X (w.heap.size + 1 + 1 + 1) (rowA (fun j => if j < k then sgF L r b last sg j else 0)) 121 ∧ Cells X w.heap.size #[.slice a n c, .string s, .int .i64 errs] 99 ∧ Cells X (w.heap.size + 1) (rowA r) 121 ∧ Cells X (w.heap.size + 1 + 1) (rowA b) 121) (fun u _ => 41 - (intOf u).toNat)
  case atStart => exact ⟨0, by omega, rfl, b0, C0, K0, R0, B0⟩
  case round =>
    obtain ⟨k, h41, rfl, hbb, CO, CT, CR, CB⟩ := hrel
    rename World => X
    have q1 := CT.cell 1
    simp at q1
    have lq := CT.lt
    by_cases hlt : k < 41
    · have hkI : (k : Int) < 41 := by omega
      have fk := CO.frozen k
      have lk := CO.lt
      have pk := CO.cell k
      rw [rowA_get _ hlt] at pk
      obtain ⟨X1, hX1⟩ : ∃ z : World, z = X.setCell ⟨w.heap.size + 1 + 1 + 1, k, none⟩ (.int .i64 1048576) := ⟨_, rfl⟩
      have CO1 : Cells X1 (w.heap.size + 1 + 1 + 1) (rowA (fun i => if i = k then 1048576 else if i < k then sgF L r b last sg i else 0)) 121 := by
        rw [hX1, ← rowA_set _ hlt]; exact CO.set _ _
      have hb1 : Below w.heap.size w X1 := by rw [hX1]; exact hbb.setCell (p := ⟨w.heap.size + 1 + 1 + 1, k, none⟩) (by show w.heap.size ≤ w.heap.size + 1 + 1 + 1; omega) _
      have CT1 : Cells X1 w.heap.size #[.slice a n c, .string s, .int .i64 errs] 99 := by rw [hX1]; exact CT.other (by omega) _ _
      have CR1 : Cells X1 (w.heap.size + 1) (rowA r) 121 := by rw [hX1]; exact CR.other (by omega) _ _
      have CB1 : Cells X1 (w.heap.size + 1 + 1) (rowA b) 121 := by rw [hX1]; exact CB.other (by omega) _ _
      go_upto_region 5 with fail
      rw [← hX1]
      clear hX1 CO CT CR CB fk lk pk q1 lq hbb
      have q1 := CT1.cell 1
      simp at q1
      have lq := CT1.lt
      by_cases hks : k ≤ s.size
      · have hki : ¬ (s.size : Int) < (k : Int) := by omega
        have fo := CO1.frozen k
        have lo := CO1.lt
        have co := CO1.cell k
        rw [rowA_get _ hlt, if_pos rfl] at co
        have rk := CR1.cell k
        have lr := CR1.lt
        rw [rowA_get _ hlt] at rk
        have hrk := HR.out k
        obtain ⟨rv, hrv⟩ : ∃ v, r k = v := ⟨_, rfl⟩
        rw [hrv] at rk hrk
        have Hrv := Lib.hid hrv
        clear hrv
        have wv : IntKind.i64.wrap (rv + 1) = rv + 1 := IntWalk.i64_in _ (by omega)
        go_upto_region 7 with fail
        obtain ⟨X2, hX2⟩ : ∃ z : World, z = X1.setCell ⟨w.heap.size + 1 + 1 + 1, k, none⟩ (.int .i64 (rv + 1)) := ⟨_, rfl⟩
        rw [← hX2]
        have CO2 : Cells X2 (w.heap.size + 1 + 1 + 1) (rowA (fun i => if i = k then sg1 r k else if i < k then sgF L r b last sg i else 0)) 121 := by
          rw [rowA_ext (g := fun i => if i = k then rv + 1 else (fun i => if i = k then (1048576 : Int) else if i < k then sgF L r b last sg i else 0) i) (fun i hi => by by_cases h : i = k <;> simp [h, sg1, Hrv.out]), ← rowA_set _ hlt, hX2]
          exact CO1.set _ _
        have hb2 : Below w.heap.size w X2 := by rw [hX2]; exact hb1.setCell (p := ⟨w.heap.size + 1 + 1 + 1, k, none⟩) (by show w.heap.size ≤ w.heap.size + 1 + 1 + 1; omega) _
        have CT2 : Cells X2 w.heap.size #[.slice a n c, .string s, .int .i64 errs] 99 := by rw [hX2]; exact CT1.other (by omega) _ _
        have CR2 : Cells X2 (w.heap.size + 1) (rowA r) 121 := by rw [hX2]; exact CR1.other (by omega) _ _
        have CB2 : Cells X2 (w.heap.size + 1 + 1) (rowA b) 121 := by rw [hX2]; exact CB1.other (by omega) _ _
        clear hX2 hb1 CO1 CT1 CR1 CB1 fo lo co rk lr q1 lq hrk wv
        go_cut [38] (fun v wx => v = .bool (decide (0 < k) && L.getD (k - 1) 0 == sg) ∧ wx = X2)
        case first =>
          have q2 := CT2.cell 1
          simp at q2
          have lq2 := CT2.lt
          have hgd : ∀ j : Nat, (hj : j < s.size) → L.getD j 0 = s[j] := fun j hj => by
            have := HL.out
            subst this
            rw [List.getD_eq_getElem?_getD, List.getElem?_eq_getElem (by simp; exact hj)]
            simp
            rfl
          cases k with
          | zero =>
            clear hgd
            go_wp2_with fail
            go_meet
            case rel => exact ⟨by simp, rfl⟩
          | succ j =>
            have hjs : j < s.size := hks
            have hji : (0 : Int) < (j : Int) + 1 := by omega
            have hjl : (j : Int) < (s.size : Int) := by omega
            have wj : IntKind.i64.wrap (((j + 1 : Nat) : Int) - 1) = (j : Int) := by rw [IntWalk.i64_in _ (by omega)]; push_cast; omega
            have hg := hgd j hjs
            have HG := Lib.hid hg
            clear hgd hg
            go_wp2_with fail
            go_meet
            case rel =>
              refine ⟨?_, rfl⟩
              have e : ((s[j].toNat : Int) == (sg.toNat : Int)) = (s[j] == sg) := by
                rw [Bool.eq_iff_iff]
                simp [← UInt8.toNat_inj]
                omega
              rw [Nat.add_sub_cancel, HG.out, e]
              simp
        case rest =>
          obtain ⟨rfl, hwc⟩ := hcut
          subst hwc
          go_upto_if 38 with fail
          go_cut [] (fun wx => Below w.heap.size w wx ∧ Cells wx (w.heap.size + 1 + 1 + 1) (rowA (fun i => if i = k then sg2 L r sg k else if i < k then sgF L r b last sg i else 0)) 121 ∧ Cells wx w.heap.size #[.slice a n c, .string s, .int .i64 errs] 99 ∧ Cells wx (w.heap.size + 1) (rowA r) 121 ∧ Cells wx (w.heap.size + 1 + 1) (rowA b) 121)
          case first =>
            cases hc : (decide (0 < k) && L.getD (k - 1) 0 == sg)
            · have HC := Lib.hid hc
              clear hc
              go_wp2_with fail
              go_meet
              case rel => exact ⟨hb2, by rw [show sg2 L r sg k = sg1 r k by rw [sg2, HC.out, if_neg (by simp)]]; exact CO2, CT2, CR2, CB2⟩
            · have HC := Lib.hid hc
              have hk0 : 0 < k := by
                have := HC.out
                simp at this
                omega
              clear hc
              obtain ⟨j, rfl⟩ : ∃ j, k = j + 1 := ⟨k - 1, by omega⟩
              have wj2 : IntKind.i64.wrap (j : Int) = (j : Int) := IntWalk.i64_in _ (by omega)
              have pr := CR2.cell j
              rw [rowA_get _ (by omega)] at pr
              have po := CO2.cell (j + 1)
              rw [rowA_get _ hlt, if_pos rfl] at po
              have fo := CO2.frozen (j + 1)
              have lo := CO2.lt
              have lr := CR2.lt
              have lb := CB2.lt
              obtain ⟨o, ho⟩ : ∃ o, sg1 r (j + 1) = o := ⟨_, rfl⟩
              obtain ⟨p, hp⟩ : ∃ p, r j = p := ⟨_, rfl⟩
              rw [ho] at po
              rw [hp] at pr
              have HO := Lib.hid ho
              have HP := Lib.hid hp
              clear ho hp
              go_wp2_with fail
              have ji0 : (0 : Int) ≤ (j : Int) + 1 := by omega
              have ji1 : (j : Int) + 1 < 41 := by omega
              have ji2 : (j : Int) < 41 := by omega
              have ji3 : (0 : Int) ≤ (j : Int) := by omega
              (refine wp_region_seq 11 [] [11] 138 [true, true, true, true, true, true, true, true, false, false, true] [LitV wc.heap.size 2 #[.int .i64 o, .int .i64 (p)] 3, fun v _ => v = .int .i64 (min o (p))] (by kernel_rfl) (by kernel_rfl) rfl (mono_cons (fun v w w' h hb => h.kept hb) (mono_cons (fun v w w' h hb => h) mono_nil)) ?_; simp only [pickOps, List.filterMap_cons, List.filterMap_nil, List.getElem?_toArray, List.getElem?_cons_succ, List.getElem?_cons_zero]; (repeat (refine wpFl_step _ rfl (fun w => (by go_simp; rfl)) ?_)); refine wpFl_nil ?_; simp only [maskOps, dummy, Act.put, List.setIfInBounds_toArray, List.set_cons_zero, List.set_cons_succ, List.take_succ_cons, List.take_zero, List.drop_succ_cons, List.drop_zero]; (repeat (refine wpQB_step (fun K hK => ?_); go_simp; first | (refine hK _ ?_; clear hK K) | (apply Exists.intro; refine ⟨fun ex => ?_, hK _ ?_⟩; (fail); clear hK K))); refine wpQB_nil ?_; simp only [relObl2, under, relEnd, and_true, List.nil_append, List.cons_append])
              refine ⟨⟨fun e => by go_simp; exact ⟨(Below.refl _ _).alloc (Nat.le_refl _) _, e.to.heap.size, rfl, by have := e.size; omega, Cells.new _ _ _⟩, fun e v hv => ?_⟩, fun e v hl v1 hv1 => ?_⟩
              · obtain ⟨gg, rfl, _, hgg⟩ := hv (by kernel_rfl)
                simp only [Act.put, List.setIfInBounds_toArray, List.set_cons_zero, List.set_cons_succ]
                go_simp
                go_at_call 91
                exact (minimum_any _ o (p) 2 _ (hgg.ints [o, p] rfl)).mono (by rintro _ _ ⟨rfl, rfl⟩; exact ⟨Below.refl _ _, rfl⟩)
              · clear hl
                subst hv1
                simp only [Act.put, List.setIfInBounds_toArray, List.set_cons_zero, List.set_cons_succ]
                have heb := e.below
                have CO5 := CO2.below heb
                have CT5 := CT2.below heb
                have CR5 := CR2.below heb
                have CB5 := CB2.below heb
                have hb5 := hb2.trans (heb.mono hb2.size)
                obtain ⟨w5, hw5⟩ : ∃ x : World, x = e.to := ⟨_, rfl⟩
                rw [← hw5] at CO5 CT5 CR5 CB5 hb5 ⊢
                clear hw5 heb CO2 CT2 CR2 CB2 hb2 pr po fo lo lr lb
                have fo := CO5.frozen (j + 1)
                have lo := CO5.lt
                have po := CO5.cell (j + 1)
                rw [rowA_get _ hlt, if_pos rfl] at po
                go_wp2_with fail
                go_meet
                case rel =>
                  refine ⟨hb5.setCell (p := ⟨w.heap.size + 1 + 1 + 1, j + 1, none⟩) (by show w.heap.size ≤ w.heap.size + 1 + 1 + 1; omega) _, ?_, CT5.other (by omega) _ _, CR5.other (by omega) _ _, CB5.other (by omega) _ _⟩
                  rw [show sg2 L r sg (j + 1) = min o (p) by rw [sg2, if_pos HC.out, HO.out, Nat.add_sub_cancel, HP.out]]
                  exact row_upd CO5 hlt _
          case rest =>
            clear CO2 CT2 CR2 CB2 hb2
            obtain ⟨hb2, CO2, CT2, CR2, CB2⟩ := hcut
            go_upto_region 9 with fail
            go_cut [64] (fun v wx => v = .bool (decide (1 < k) && sg == 45 && L.getD (k - 2) 0 == 46 && L.getD (k - 1) 0 == 46) ∧ wx = wc)
            case first =>
              have q2 := CT2.cell 1
              simp at q2
              have lq2 := CT2.lt
              have hgd : ∀ j : Nat, (hj : j < s.size) → L.getD j 0 = s[j] := fun j hj => by
                have := HL.out
                subst this
                rw [List.getD_eq_getElem?_getD, List.getElem?_eq_getElem (by simp; exact hj)]
                simp
                rfl
              by_cases h1 : 1 < k
              · obtain ⟨j, rfl⟩ : ∃ j, k = j + 1 + 1 := ⟨k - 2, by omega⟩
                have hj1 : j + 1 < s.size := hks
                have hj0 : j < s.size := by omega
                have hg1 := hgd (j + 1) hj1
                have hg0 := hgd j hj0
                have HG0 := Lib.hid hg0
                have HG1 := Lib.hid hg1
                clear hgd hg0 hg1
                have hI : (1 : Int) < (j : Int) + 1 + 1 := by omega
                have wI : IntKind.i64.wrap ((j : Int) + 1 + 1 - 2) = (j : Int) := by rw [IntWalk.i64_in _ (by omega)]; omega
                have tnI : ((j : Int) + 1 + 1).toNat = j + 1 + 1 := by omega
                have b0I : (0 : Int) ≤ (j : Int) := by omega
                have b1I : (j : Int) ≤ (j : Int) + 1 + 1 := by omega
                have b2I : (j : Int) + 1 + 1 ≤ (s.size : Int) := by omega
                cases hS : ((sg.toNat : Int) == 45)
                · go_wp2_with fail
                  go_meet
                  case rel => exact ⟨by rw [show (sg == 45) = false from (u8_eq sg 45 (by omega)).symm.trans hS]; simp, rfl⟩
                · go_wp2_with fail
                  go_meet
                  case rel => exact ⟨by rw [show (sg == 45) = true from (u8_eq sg 45 (by omega)).symm.trans hS, ext_two s j hj1, show j + 1 + 1 - 2 = j by omega, show j + 1 + 1 - 1 = j + 1 by omega, HG0.out, HG1.out, decide_eq_true (by omega)]; simp, rfl⟩
              · have hI : ¬ (1 : Int) < (k : Int) := by omega
                go_wp2_with fail
                go_meet
                case rel => exact ⟨by rw [decide_eq_false h1]; rfl, rfl⟩
            case rest =>
              obtain ⟨rfl, hwc⟩ := hcut
              subst hwc
              go_upto_if 64 with fail
              go_cut [] (fun wx => Below w.heap.size w wx ∧ Cells wx (w.heap.size + 1 + 1 + 1) (rowA (fun i => if i = k then sg3 L r sg k else if i < k then sgF L r b last sg i else 0)) 121 ∧ Cells wx w.heap.size #[.slice a n c, .string s, .int .i64 errs] 99 ∧ Cells wx (w.heap.size + 1) (rowA r) 121 ∧ Cells wx (w.heap.size + 1 + 1) (rowA b) 121)
              case first =>
                cases hc : (decide (1 < k) && sg == 45 && L.getD (k - 2) 0 == 46 && L.getD (k - 1) 0 == 46)
                · have HC := Lib.hid hc
                  clear hc
                  go_wp2_with fail
                  go_meet
                  case rel => exact ⟨hb2, by rw [show sg3 L r sg k = sg2 L r sg k by rw [sg3, HC.out, if_neg (by simp)]]; exact CO2, CT2, CR2, CB2⟩
                · have HC := Lib.hid hc
                  have hk0 : 1 < k := by
                    have := HC.out
                    simp at this
                    omega
                  clear hc
                  obtain ⟨j, rfl⟩ : ∃ j, k = j + 1 + 1 := ⟨k - 2, by omega⟩
                  have wj2 : IntKind.i64.wrap (j : Int) = (j : Int) := IntWalk.i64_in _ (by omega)
                  have pr := CR2.cell j
                  rw [rowA_get _ (by omega)] at pr
                  have po := CO2.cell (j + 1 + 1)
                  rw [rowA_get _ hlt, if_pos rfl] at po
                  have fo := CO2.frozen (j + 1 + 1)
                  have lo := CO2.lt
                  have lr := CR2.lt
                  have lb := CB2.lt
                  obtain ⟨o, ho⟩ : ∃ o, sg2 L r sg (j + 1 + 1) = o := ⟨_, rfl⟩
                  obtain ⟨p, hp⟩ : ∃ p, r j = p := ⟨_, rfl⟩
                  rw [ho] at po
                  rw [hp] at pr
                  have pbd := HR.out j
                  rw [hp] at pbd
                  have wp1 : IntKind.i64.wrap (p + 1) = p + 1 := IntWalk.i64_in _ (by omega)
                  have HO := Lib.hid ho
                  have HP := Lib.hid hp
                  clear ho hp
                  go_wp2_with fail
                  have ji0 : (0 : Int) ≤ (j : Int) + 1 + 1 := by omega
                  have ji1 : (j : Int) + 1 + 1 < 41 := by omega
                  have ji4 : (0 : Int) ≤ (j : Int) + 2 := by omega
                  have ji5 : (j : Int) + 2 < 41 := by omega
                  have tnI : ((j : Int) + 1 + 1).toNat = j + 1 + 1 := by omega
                  have wI : IntKind.i64.wrap ((j : Int) + 1 + 1 - 2) = (j : Int) := by rw [IntWalk.i64_in _ (by omega)]; omega
                  have ji2 : (j : Int) < 41 := by omega
                  have ji3 : (0 : Int) ≤ (j : Int) := by omega
                  (refine wp_region_seq 12 [] [12] 138 [true, true, true, true, true, true, true, true, true, false, false, true] [LitV wc.heap.size 2 #[.int .i64 o, .int .i64 (p + 1)] 3, fun v _ => v = .int .i64 (min o (p + 1))] (by kernel_rfl) (by kernel_rfl) rfl (mono_cons (fun v w w' h hb => h.kept hb) (mono_cons (fun v w w' h hb => h) mono_nil)) ?_; simp only [pickOps, List.filterMap_cons, List.filterMap_nil, List.getElem?_toArray, List.getElem?_cons_succ, List.getElem?_cons_zero]; (repeat (refine wpFl_step _ rfl (fun w => (by go_simp; rfl)) ?_)); refine wpFl_nil ?_; simp only [maskOps, dummy, Act.put, List.setIfInBounds_toArray, List.set_cons_zero, List.set_cons_succ, List.take_succ_cons, List.take_zero, List.drop_succ_cons, List.drop_zero]; (repeat (refine wpQB_step (fun K hK => ?_); go_simp; first | (refine hK _ ?_; clear hK K) | (apply Exists.intro; refine ⟨fun ex => ?_, hK _ ?_⟩; (fail); clear hK K))); refine wpQB_nil ?_; simp only [relObl2, under, relEnd, and_true, List.nil_append, List.cons_append])
                  refine ⟨⟨fun e => by go_simp; exact ⟨(Below.refl _ _).alloc (Nat.le_refl _) _, e.to.heap.size, rfl, by have := e.size; omega, Cells.new _ _ _⟩, fun e v hv => ?_⟩, fun e v hl v1 hv1 => ?_⟩
                  · obtain ⟨gg, rfl, _, hgg⟩ := hv (by kernel_rfl)
                    simp only [Act.put, List.setIfInBounds_toArray, List.set_cons_zero, List.set_cons_succ]
                    go_simp
                    go_at_call 91
                    exact (minimum_any _ o (p + 1) 2 _ (hgg.ints [o, p + 1] rfl)).mono (by rintro _ _ ⟨rfl, rfl⟩; exact ⟨Below.refl _ _, rfl⟩)
                  · clear hl
                    subst hv1
                    simp only [Act.put, List.setIfInBounds_toArray, List.set_cons_zero, List.set_cons_succ]
                    have heb := e.below
                    have CO5 := CO2.below heb
                    have CT5 := CT2.below heb
                    have CR5 := CR2.below heb
                    have CB5 := CB2.below heb
                    have hb5 := hb2.trans (heb.mono hb2.size)
                    obtain ⟨w5, hw5⟩ : ∃ x : World, x = e.to := ⟨_, rfl⟩
                    rw [← hw5] at CO5 CT5 CR5 CB5 hb5 ⊢
                    clear hw5 heb CO2 CT2 CR2 CB2 hb2 pr po fo lo lr lb
                    have fo := CO5.frozen (j + 1 + 1)
                    have lo := CO5.lt
                    have po := CO5.cell (j + 1 + 1)
                    rw [rowA_get _ hlt, if_pos rfl] at po
                    go_wp2_with fail
                    go_meet
                    case rel =>
                      refine ⟨hb5.setCell (p := ⟨w.heap.size + 1 + 1 + 1, j + 1 + 1, none⟩) (by show w.heap.size ≤ w.heap.size + 1 + 1 + 1; omega) _, ?_, CT5.other (by omega) _ _, CR5.other (by omega) _ _, CB5.other (by omega) _ _⟩
                      rw [show sg3 L r sg (j + 1 + 1) = min o (p + 1) by rw [sg3, if_pos HC.out, HO.out, show j + 1 + 1 - 2 = j by omega, HP.out]]
                      exact row_upd CO5 hlt _
              case rest =>
                clear CO2 CT2 CR2 CB2 hb2
                obtain ⟨hb2, CO2, CT2, CR2, CB2⟩ := hcut
                go_upto_region 11 with fail
                go_cut [94] (fun v wx => v = .bool (decide (0 < k) && sg == 46 && last == 46 && L.getD (k - 1) 0 == 45) ∧ wx = wc)
                case first =>
                  have q2 := CT2.cell 1
                  simp at q2
                  have lq2 := CT2.lt
                  have hgd : ∀ j : Nat, (hj : j < s.size) → L.getD j 0 = s[j] := fun j hj => by
                    have := HL.out
                    subst this
                    rw [List.getD_eq_getElem?_getD, List.getElem?_eq_getElem (by simp; exact hj)]
                    simp
                    rfl
                  cases k with
                  | zero =>
                    clear hgd
                    go_wp2_with fail
                    go_meet
                    case rel => exact ⟨by simp, rfl⟩
                  | succ j =>
                    have hjs : j < s.size := hks
                    have hji : (0 : Int) < (j : Int) + 1 := by omega
                    have hjl : (j : Int) < (s.size : Int) := by omega
                    have wj : IntKind.i64.wrap (((j + 1 : Nat) : Int) - 1) = (j : Int) := by rw [IntWalk.i64_in _ (by omega)]; push_cast; omega
                    have hg := hgd j hjs
                    have HG := Lib.hid hg
                    clear hgd hg
                    cases hS : ((sg.toNat : Int) == 46)
                    · go_wp2_with fail
                      go_meet
                      case rel => exact ⟨by rw [show (sg == 46) = false from (u8_eq sg 46 (by omega)).symm.trans hS]; simp, rfl⟩
                    · cases hS2 : ((last.toNat : Int) == 46)
                      · go_wp2_with fail
                        go_meet
                        case rel => exact ⟨by rw [show (last == 46) = false from (u8_eq last 46 (by omega)).symm.trans hS2]; simp, rfl⟩
                      · go_wp2_with fail
                        go_meet
                        case rel => exact ⟨by rw [show (sg == 46) = true from (u8_eq sg 46 (by omega)).symm.trans hS, show (last == 46) = true from (u8_eq last 46 (by omega)).symm.trans hS2, Nat.add_sub_cancel, HG.out, decide_eq_true (by omega), ← show ((s[j].toNat : Int) == 45) = (s[j] == 45) from u8_eq s[j] 45 (by omega)]; simp, rfl⟩
                case rest =>
                  obtain ⟨rfl, hwc⟩ := hcut
                  subst hwc
                  go_upto_if 94 with fail
                  go_cut [] (fun wx => Below w.heap.size w wx ∧ Cells wx (w.heap.size + 1 + 1 + 1) (rowA (fun i => if i = k then sg4 L r b last sg k else if i < k then sgF L r b last sg i else 0)) 121 ∧ Cells wx w.heap.size #[.slice a n c, .string s, .int .i64 errs] 99 ∧ Cells wx (w.heap.size + 1) (rowA r) 121 ∧ Cells wx (w.heap.size + 1 + 1) (rowA b) 121)
                  case first =>
                    cases hc : (decide (0 < k) && sg == 46 && last == 46 && L.getD (k - 1) 0 == 45)
                    · have HC := Lib.hid hc
                      clear hc
                      go_wp2_with fail
                      go_meet
                      case rel => exact ⟨hb2, by rw [show sg4 L r b last sg k = sg3 L r sg k by rw [sg4, HC.out, if_neg (by simp)]]; exact CO2, CT2, CR2, CB2⟩
                    · have HC := Lib.hid hc
                      have hk0 : 0 < k := by
                        have := HC.out
                        simp at this
                        omega
                      clear hc
                      obtain ⟨j, rfl⟩ : ∃ j, k = j + 1 := ⟨k - 1, by omega⟩
                      have wj2 : IntKind.i64.wrap (j : Int) = (j : Int) := IntWalk.i64_in _ (by omega)
                      have pr := CB2.cell j
                      rw [rowA_get _ (by omega)] at pr
                      have po := CO2.cell (j + 1)
                      rw [rowA_get _ hlt, if_pos rfl] at po
                      have fo := CO2.frozen (j + 1)
                      have lo := CO2.lt
                      have lr := CR2.lt
                      have lb := CB2.lt
                      obtain ⟨o, ho⟩ : ∃ o, sg3 L r sg (j + 1) = o := ⟨_, rfl⟩
                      obtain ⟨p, hp⟩ : ∃ p, b j = p := ⟨_, rfl⟩
                      rw [ho] at po
                      rw [hp] at pr
                      have pbd := HB.out j
                      rw [hp] at pbd
                      have wp1 : IntKind.i64.wrap (p + 1) = p + 1 := IntWalk.i64_in _ (by omega)
                      have HO := Lib.hid ho
                      have HP := Lib.hid hp
                      clear ho hp
                      go_wp2_with fail
                      have ji0 : (0 : Int) ≤ (j : Int) + 1 := by omega
                      have ji1 : (j : Int) + 1 < 41 := by omega
                      have ji2 : (j : Int) < 41 := by omega
                      have ji3 : (0 : Int) ≤ (j : Int) := by omega
                      (refine wp_region_seq 12 [] [12] 138 [true, true, true, true, true, true, true, true, true, false, false, true] [LitV wc.heap.size 2 #[.int .i64 o, .int .i64 (p + 1)] 3, fun v _ => v = .int .i64 (min o (p + 1))] (by kernel_rfl) (by kernel_rfl) rfl (mono_cons (fun v w w' h hb => h.kept hb) (mono_cons (fun v w w' h hb => h) mono_nil)) ?_; simp only [pickOps, List.filterMap_cons, List.filterMap_nil, List.getElem?_toArray, List.getElem?_cons_succ, List.getElem?_cons_zero]; (repeat (refine wpFl_step _ rfl (fun w => (by go_simp; rfl)) ?_)); refine wpFl_nil ?_; simp only [maskOps, dummy, Act.put, List.setIfInBounds_toArray, List.set_cons_zero, List.set_cons_succ, List.take_succ_cons, List.take_zero, List.drop_succ_cons, List.drop_zero]; (repeat (refine wpQB_step (fun K hK => ?_); go_simp; first | (refine hK _ ?_; clear hK K) | (apply Exists.intro; refine ⟨fun ex => ?_, hK _ ?_⟩; (fail); clear hK K))); refine wpQB_nil ?_; simp only [relObl2, under, relEnd, and_true, List.nil_append, List.cons_append])
                      refine ⟨⟨fun e => by go_simp; exact ⟨(Below.refl _ _).alloc (Nat.le_refl _) _, e.to.heap.size, rfl, by have := e.size; omega, Cells.new _ _ _⟩, fun e v hv => ?_⟩, fun e v hl v1 hv1 => ?_⟩
                      · obtain ⟨gg, rfl, _, hgg⟩ := hv (by kernel_rfl)
                        simp only [Act.put, List.setIfInBounds_toArray, List.set_cons_zero, List.set_cons_succ]
                        go_simp
                        go_at_call 91
                        exact (minimum_any _ o (p + 1) 2 _ (hgg.ints [o, p + 1] rfl)).mono (by rintro _ _ ⟨rfl, rfl⟩; exact ⟨Below.refl _ _, rfl⟩)
                      · clear hl
                        subst hv1
                        simp only [Act.put, List.setIfInBounds_toArray, List.set_cons_zero, List.set_cons_succ]
                        have heb := e.below
                        have CO5 := CO2.below heb
                        have CT5 := CT2.below heb
                        have CR5 := CR2.below heb
                        have CB5 := CB2.below heb
                        have hb5 := hb2.trans (heb.mono hb2.size)
                        obtain ⟨w5, hw5⟩ : ∃ x : World, x = e.to := ⟨_, rfl⟩
                        rw [← hw5] at CO5 CT5 CR5 CB5 hb5 ⊢
                        clear hw5 heb CO2 CT2 CR2 CB2 hb2 pr po fo lo lr lb
                        have fo := CO5.frozen (j + 1)
                        have lo := CO5.lt
                        have po := CO5.cell (j + 1)
                        rw [rowA_get _ hlt, if_pos rfl] at po
                        go_wp2_with fail
                        go_meet
                        case rel =>
                          refine ⟨hb5.setCell (p := ⟨w.heap.size + 1 + 1 + 1, j + 1, none⟩) (by show w.heap.size ≤ w.heap.size + 1 + 1 + 1; omega) _, ?_, CT5.other (by omega) _ _, CR5.other (by omega) _ _, CB5.other (by omega) _ _⟩
                          rw [show sg4 L r b last sg (j + 1) = min o (p + 1) by rw [sg4, if_pos HC.out, HO.out, Nat.add_sub_cancel, HP.out]]
                          exact row_upd CO5 hlt _
                  case rest =>
                    clear CO2 CT2 CR2 CB2 hb2
                    obtain ⟨hb2, CO2, CT2, CR2, CB2⟩ := hcut
                    go_upto_region 13 with fail
                    go_cut [116] (fun v wx => v = .bool (decide (0 < k) && L.getD (k - 1) 0 == 32) ∧ wx = wc)
                    case first =>
                      have q2 := CT2.cell 1
                      simp at q2
                      have lq2 := CT2.lt
                      have hgd : ∀ j : Nat, (hj : j < s.size) → L.getD j 0 = s[j] := fun j hj => by
                        have := HL.out
                        subst this
                        rw [List.getD_eq_getElem?_getD, List.getElem?_eq_getElem (by simp; exact hj)]
                        simp
                        rfl
                      cases k with
                      | zero =>
                        clear hgd
                        go_wp2_with fail
                        go_meet
                        case rel => exact ⟨by simp, rfl⟩
                      | succ j =>
                        have hjs : j < s.size := hks
                        have hji : (0 : Int) < (j : Int) + 1 := by omega
                        have hjl : (j : Int) < (s.size : Int) := by omega
                        have wj : IntKind.i64.wrap (((j + 1 : Nat) : Int) - 1) = (j : Int) := by rw [IntWalk.i64_in _ (by omega)]; push_cast; omega
                        have hg := hgd j hjs
                        have HG := Lib.hid hg
                        clear hgd hg
                        go_wp2_with fail
                        go_meet
                        case rel =>
                          refine ⟨?_, rfl⟩
                          have e : ((s[j].toNat : Int) == (32 : Int)) = (s[j] == 32) := by
                            rw [Bool.eq_iff_iff]
                            simp [← UInt8.toNat_inj]
                            omega
                          rw [Nat.add_sub_cancel, HG.out, e]
                          simp
                    case rest =>
                      obtain ⟨rfl, hwc⟩ := hcut
                      subst hwc
                      go_upto_if 116 with fail
                      go_cut [] (fun wx => Below w.heap.size w wx ∧ Cells wx (w.heap.size + 1 + 1 + 1) (rowA (fun i => if i = k then sg5 L r b last sg (if 0 < k then sgF L r b last sg (k - 1) else 0) k else if i < k then sgF L r b last sg i else 0)) 121 ∧ Cells wx w.heap.size #[.slice a n c, .string s, .int .i64 errs] 99 ∧ Cells wx (w.heap.size + 1) (rowA r) 121 ∧ Cells wx (w.heap.size + 1 + 1) (rowA b) 121)
                      case first =>
                        cases hc : (decide (0 < k) && L.getD (k - 1) 0 == 32)
                        · have HC := Lib.hid hc
                          clear hc
                          go_wp2_with fail
                          go_meet
                          case rel => exact ⟨hb2, by rw [show sg5 L r b last sg (if 0 < k then sgF L r b last sg (k - 1) else 0) k = sg4 L r b last sg k by rw [sg5, HC.out, if_neg (by simp)]]; exact CO2, CT2, CR2, CB2⟩
                        · have HC := Lib.hid hc
                          have hk0 : 0 < k := by
                            have := HC.out
                            simp at this
                            omega
                          clear hc
                          obtain ⟨j, rfl⟩ : ∃ j, k = j + 1 := ⟨k - 1, by omega⟩
                          have wj2 : IntKind.i64.wrap (j : Int) = (j : Int) := IntWalk.i64_in _ (by omega)
                          have pr := CO2.cell j
                          rw [rowA_get _ (by omega), if_neg (by omega), if_pos (by omega)] at pr
                          have po := CO2.cell (j + 1)
                          rw [rowA_get _ hlt, if_pos rfl] at po
                          have fo := CO2.frozen (j + 1)
                          have lo := CO2.lt
                          have lr := CR2.lt
                          have lb := CB2.lt
                          obtain ⟨o, ho⟩ : ∃ o, sg4 L r b last sg (j + 1) = o := ⟨_, rfl⟩
                          obtain ⟨p, hp⟩ : ∃ p, sgF L r b last sg j = p := ⟨_, rfl⟩
                          rw [ho] at po
                          rw [hp] at pr
                          have pbd := (sgF_ok L r b last sg HR.out HB.out) j
                          rw [hp] at pbd
                          have wp1 : IntKind.i64.wrap (p + 1) = p + 1 := IntWalk.i64_in _ (by omega)
                          have HO := Lib.hid ho
                          have HP := Lib.hid hp
                          clear ho hp
                          go_wp2_with fail
                          have ji0 : (0 : Int) ≤ (j : Int) + 1 := by omega
                          have ji1 : (j : Int) + 1 < 41 := by omega
                          have ji2 : (j : Int) < 41 := by omega
                          have ji3 : (0 : Int) ≤ (j : Int) := by omega
                          (refine wp_region_seq 12 [] [12] 138 [true, true, true, true, true, true, true, true, true, false, false, true] [LitV wc.heap.size 2 #[.int .i64 o, .int .i64 (p + 1)] 3, fun v _ => v = .int .i64 (min o (p + 1))] (by kernel_rfl) (by kernel_rfl) rfl (mono_cons (fun v w w' h hb => h.kept hb) (mono_cons (fun v w w' h hb => h) mono_nil)) ?_; simp only [pickOps, List.filterMap_cons, List.filterMap_nil, List.getElem?_toArray, List.getElem?_cons_succ, List.getElem?_cons_zero]; (repeat (refine wpFl_step _ rfl (fun w => (by go_simp; rfl)) ?_)); refine wpFl_nil ?_; simp only [maskOps, dummy, Act.put, List.setIfInBounds_toArray, List.set_cons_zero, List.set_cons_succ, List.take_succ_cons, List.take_zero, List.drop_succ_cons, List.drop_zero]; (repeat (refine wpQB_step (fun K hK => ?_); go_simp; first | (refine hK _ ?_; clear hK K) | (apply Exists.intro; refine ⟨fun ex => ?_, hK _ ?_⟩; (fail); clear hK K))); refine wpQB_nil ?_; simp only [relObl2, under, relEnd, and_true, List.nil_append, List.cons_append])
                          refine ⟨⟨fun e => by go_simp; exact ⟨(Below.refl _ _).alloc (Nat.le_refl _) _, e.to.heap.size, rfl, by have := e.size; omega, Cells.new _ _ _⟩, fun e v hv => ?_⟩, fun e v hl v1 hv1 => ?_⟩
                          · obtain ⟨gg, rfl, _, hgg⟩ := hv (by kernel_rfl)
                            simp only [Act.put, List.setIfInBounds_toArray, List.set_cons_zero, List.set_cons_succ]
                            go_simp
                            go_at_call 91
                            exact (minimum_any _ o (p + 1) 2 _ (hgg.ints [o, p + 1] rfl)).mono (by rintro _ _ ⟨rfl, rfl⟩; exact ⟨Below.refl _ _, rfl⟩)
                          · clear hl
                            subst hv1
                            simp only [Act.put, List.setIfInBounds_toArray, List.set_cons_zero, List.set_cons_succ]
                            have heb := e.below
                            have CO5 := CO2.below heb
                            have CT5 := CT2.below heb
                            have CR5 := CR2.below heb
                            have CB5 := CB2.below heb
                            have hb5 := hb2.trans (heb.mono hb2.size)
                            obtain ⟨w5, hw5⟩ : ∃ x : World, x = e.to := ⟨_, rfl⟩
                            rw [← hw5] at CO5 CT5 CR5 CB5 hb5 ⊢
                            clear hw5 heb CO2 CT2 CR2 CB2 hb2 pr po fo lo lr lb
                            have fo := CO5.frozen (j + 1)
                            have lo := CO5.lt
                            have po := CO5.cell (j + 1)
                            rw [rowA_get _ hlt, if_pos rfl] at po
                            go_wp2_with fail
                            go_meet
                            case rel =>
                              refine ⟨hb5.setCell (p := ⟨w.heap.size + 1 + 1 + 1, j + 1, none⟩) (by show w.heap.size ≤ w.heap.size + 1 + 1 + 1; omega) _, ?_, CT5.other (by omega) _ _, CR5.other (by omega) _ _, CB5.other (by omega) _ _⟩
                              rw [show sg5 L r b last sg (if 0 < (j + 1) then sgF L r b last sg (j + 1 - 1) else 0) (j + 1) = min o (p + 1) by rw [sg5, if_pos HC.out, HO.out, if_pos (by omega), Nat.add_sub_cancel, HP.out]]
                              exact row_upd CO5 hlt _
                      case rest =>
                        clear CO2 CT2 CR2 CB2 hb2
                        obtain ⟨hb2, CO2, CT2, CR2, CB2⟩ := hcut
                        have po := CO2.cell k
                        rw [rowA_get _ hlt, if_pos rfl] at po
                        have fo := CO2.frozen k
                        have lo := CO2.lt
                        obtain ⟨o, ho⟩ : ∃ o, sg5 L r b last sg (if 0 < k then sgF L r b last sg (k - 1) else 0) k = o := ⟨_, rfl⟩
                        rw [ho] at po
                        have HO := Lib.hid ho
                        clear ho
                        have k0I : (0 : Int) ≤ (k : Int) := by omega
                        have hend : ∀ X : World, Below w.heap.size w X → Cells X (w.heap.size + 1 + 1 + 1) (rowA (fun i => if i = k then min o 1048576 else if i < k then sgF L r b last sg i else 0)) 121 → Cells X (w.heap.size + 1 + 1 + 1) (rowA (fun j => if j < k + 1 then sgF L r b last sg j else 0)) 121 := fun X _ h => by
                          rw [rowA_ext (g := fun i => if i = k then min o 1048576 else if i < k then sgF L r b last sg i else 0) (fun i hi => by
                            by_cases h : i = k
                            · subst h
                              rw [if_pos (by omega), if_pos rfl, ← HO.out]
                              cases i with
                              | zero => rfl
                              | succ j => rw [sgF, if_pos (by rw [HLs.out]; exact hks), if_pos (by omega), Nat.add_sub_cancel]
                            · rw [if_neg h]
                              by_cases h2 : i < k
                              · rw [if_pos (by omega), if_pos h2]
                              · rw [if_neg (by omega), if_neg h2])]
                          exact h
                        have HE := Lib.hid hend
                        clear hend
                        go_wp2_with fail
                        go_at_call 91
                        refine (minimum_any _ o 1048576 2 _ (fints_lit _ _ _ _ rfl)).mono ?_
                        rintro e _ ⟨rfl, rfl⟩
                        obtain ⟨ob, hob⟩ : ∃ z : Obj, z = Obj.cells { toList := Value.int IntKind.i64 o :: List.map (Value.int IntKind.i64) [1048576] } 3 := ⟨_, rfl⟩
                        rw [← hob]
                        have heb : Below wc.heap.size wc (wc.alloc ob) := (Below.refl _ _).alloc (Nat.le_refl _) _
                        obtain ⟨w5, hw5⟩ : ∃ z : World, z = wc.alloc ob := ⟨_, rfl⟩
                        rw [← hw5] at heb ⊢
                        have CO5 := CO2.below heb
                        have CT5 := CT2.below heb
                        have CR5 := CR2.below heb
                        have CB5 := CB2.below heb
                        have hb5 := hb2.trans (heb.mono hb2.size)
                        clear hw5 hob heb CO2 CT2 CR2 CB2 hb2 po fo lo
                        have fo := CO5.frozen k
                        have lo := CO5.lt
                        have po := CO5.cell k
                        rw [rowA_get _ hlt, if_pos rfl] at po
                        go_wp2
                        go_roundw
                        case rel => exact ⟨k + 1, by omega, by go_num, hb5.setCell (p := ⟨w.heap.size + 1 + 1 + 1, k, none⟩) (by show w.heap.size ≤ w.heap.size + 1 + 1 + 1; omega) _, HE.out _ (hb5.setCell (p := ⟨w.heap.size + 1 + 1 + 1, k, none⟩) (by show w.heap.size ≤ w.heap.size + 1 + 1 + 1; omega) _) (row_upd CO5 hlt _), CT5.other (by omega) _ _, CR5.other (by omega) _ _, CB5.other (by omega) _ _⟩
                        case measure => simp [intOf]; omega
      · have hki : (s.size : Int) < (k : Int) := by omega
        go_wp2
        go_roundw
        case rel => exact ⟨k + 1, by omega, by go_num, hb1, by
          rw [rowA_ext (g := fun i => if i = k then 1048576 else if i < k then sgF L r b last sg i else 0) (fun i hi => by
            by_cases h : i = k
            · subst h
              rw [if_pos (by omega), if_pos rfl]
              cases i with
              | zero => exact absurd (Nat.zero_le _) hks
              | succ j => rw [sgF, if_neg (by rw [HLs.out]; exact hks)]
            · rw [if_neg h]
              by_cases h2 : i < k
              · rw [if_pos (by omega), if_pos h2]
              · rw [if_neg (by omega), if_neg h2])]
          exact CO1, CT1, CR1, CB1⟩
        case measure => simp [intOf]; omega
    · obtain rfl : k = 41 := by omega
      rw [rowA_ext (g := sgF L r b last sg) (fun j hj => by rw [if_pos hj])] at CO
      go_upto_region 17 with fail
      go_step
      go_step
      refine wp_load_row 121 (.tmp 10) rfl (w.heap.size + 1 + 1 + 1) rfl 121 _ (0, 0) _ CO Try.underlying121 rfl (by rw [rowA_size]; kernel_rfl) ?_
      go_step
      go_step
      refine wp_store_row 121 (.tmp 10) (.tmp 137) rfl (w.heap.size + 1 + 1 + 1) _ rfl rfl 121 _ CO (by rw [rowA_size]; kernel_rfl) (by rw [rowA_size]) (rowA_one _) ?_
      go_wp2
      refine bodyPost_ret (v := .agg (rowA (sgF L r b last sg))) ?_ rfl ⟨rfl, below_setRow hbb (by omega) _⟩
      exact results_cell_row rfl _ _ (w.heap.size + 1 + 1 + 1) 121 _ (0, 0) _ rfl (setRow_heap _ _ _ _ _ _ CO) Try.underlying121 rfl (by rw [rowA_size]; kernel_rfl)
end
end Go.Proofs.Ytnofcpihkglmmaa
