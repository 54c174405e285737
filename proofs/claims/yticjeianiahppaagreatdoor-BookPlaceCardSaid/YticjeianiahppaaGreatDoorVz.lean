/- book, laws: BookPlace -/
import Derived.Test.YticjeianiahppaaGreatDoorGq
import Derived.Test.YticjeianiahppaaGreatDoorGp
import Derived.Test.YticjeianiahppaaGreatDoorGr
import Derived.Test.YticjeianiahppaaGreatDoorVi
namespace Go.Proofs.YticjeianiahppaaGreatDoor
set_option linter.unusedVariables false
set_option linter.unusedSimpArgs false
set_option linter.unnecessarySimpa false
open Go.RowKit Go.Flow
set_option maxRecDepth 100000 in
set_option maxHeartbeats 8000000 in
theorem bookPlace_walk (a : Option Addr) (l : List ByteArray) (c : Nat) (at_ : Int) (w : World) (hl : zAs w a l) (hn : a = none → c = 0) (hm : l.length ≤ 9223372036854775807) (hc : l.length ≤ c) (hat : 0 ≤ at_ ∧ at_ ≤ 255) (hv : Vars w) :
    Calls Tryz.prog 17 #[.slice a l.length c, .int .u8 at_] w fun e w' => e = .returned (.bool true) ∧ Below w.heap.size w w' := by
  have rd : Calls _ _ #[.slice a l.length c, .int .i64 50] w _ := zQB a c 50 l w hl hm
  cases hr : zHm l 50
  · rw [hr] at rd
    clear hr
    go_enter Tryz.func17, Tryz.ntmps17
    go_wp2_with fail
    go_at_call 55
    refine rd.mono ?_
    rintro e W1 ⟨rfl, b1⟩
    go_wp2_with fail
    go_at_call 37
    refine (zQX W1 (hv.below b1)).mono ?_
    rintro e W2 ⟨rfl, b2⟩
    go_wp2_with fail
    go_ret
    exact ⟨rfl, b1.trans (b2.mono b1.size)⟩
  · obtain ⟨h0, _, h50⟩ := zQ0 hr
    rw [hr] at rd
    clear hr
    by_cases hz : l.length = 0
    · rw [hz] at rd ⊢
      clear hl hm hc hz h50
      go_enter Tryz.func17, Tryz.ntmps17
      go_wp2_with fail
      go_at_call 55
      refine rd.mono ?_
      rintro e W1 ⟨rfl, b1⟩
      go_wp2_with fail
      go_at_call 37
      refine (zQX W1 (hv.below b1)).mono ?_
      rintro e W2 ⟨rfl, b2⟩
      go_wp2_with fail
      go_ret
      exact ⟨rfl, b1.trans (b2.mono b1.size)⟩
    have hzI : ¬ (l.length : Int) = 0 := by omega
    have h80 := (zFM h0).2
    have ls := fun W (b : Below w.heap.size w W) => zFH a c l W (hl.below b) hn (by omega)
    have wr := fun W a' c' (h : zAs W a' l) => zNY a' c' l W h (by omega)
    obtain ⟨k, hk, hkm⟩ : ∃ k : Nat, k < l.length ∧ at_.tmod (l.length : Int) = (k : Int) := by
      refine ⟨at_.toNat % l.length, Nat.mod_lt _ (by omega), ?_⟩
      have : at_ = ((at_.toNat : Nat) : Int) := by omega
      rw [this]; simp [Int.tmod]
    have kw : IntKind.i64.wrap (k : Int) = (k : Int) := IntWalk.i64_in _ (by omega)
    have aw : IntKind.i64.wrap at_ = at_ := IntWalk.i64_in _ (by omega)
    have hk0 : (0 : Int) ≤ (k : Int) := by omega
    have hkI : (k : Int) < (l.length : Int) := by omega
    have hkc : (k : Int) ≤ (c : Int) := by omega
    have hBz := file_le h80 h50
    have hBl := fileB_len l
    have hrw := read_without h80 h50 hk
    have hsp := congrArg List.length (file_split hk)
    have hsz : ∀ j (h : j < l.length), zIe (zG9 (l.take (j + 1))) = zIe (zG9 (l.take j)) + (10 + (l[j]).size) := fun j h => by
      rw [List.take_succ_eq_append_getElem h]
      unfold zG9
      rw [List.map_append, size_app]
      simp [zIe]
    have hle : ∀ j, j ≤ 50 → zIe (zG9 (l.take j)) ≤ 4500 := fun j hj => Nat.le_trans (zHg h80 j) (by omega)
    obtain ⟨B, hB⟩ : ∃ B, zDT l = B := ⟨_, rfl⟩
    unfold zNZ at wr
    simp only [hB] at wr
    rw [hB] at hBz hBl hrw hsp
    replace hB := Lib.hid hB
    replace hBl := Lib.hid hBl
    replace hsz := Lib.hid hsz
    replace hrw := Lib.hid hrw
    replace hsp := Lib.hid hsp
    go_enter Tryz.func17, Tryz.ntmps17
    go_wp2_with fail
    go_at_call 55
    refine rd.mono ?_
    rintro e W1 ⟨rfl, b1⟩
    clear rd
    go_wp2_with fail
    go_at_call 38
    refine (ls W1 b1).mono ?_
    rintro e W2 ⟨⟨a2, c2, rfl, o2⟩, b2⟩
    have t2 := b1.trans (b2.mono b1.size)
    go_wp2_with fail
    go_at_call 66
    refine (wr W2 a2 c2 o2.strs).mono ?_
    rintro e W3 ⟨⟨_, ae, ce, rfl, o3⟩ | ⟨h3, rfl⟩, b3⟩
    rotate_left
    · rw [h0] at h3; cases h3
    have t3 := t2.trans (b3.mono t2.size)
    have hce := o3.fits.1
    clear b1 b2 b3 t2 o2 wr ls
    go_wp2_with fail
    go_loopw [8, 9] (fun h m U => ∃ j : Nat, j ≤ k ∧ h = .int .i64 (zIe (zG9 (l.take j)) : Int) ∧ m = .int .i64 j ∧ Below W3.heap.size W3 U) (fun _ m _ => k - (intOf m).toNat)
    case atStart => exact ⟨0, Nat.zero_le _, rfl, rfl, Below.refl _ _⟩
    case round =>
      obtain ⟨j, hj, rfl, rfl, hb⟩ := hrel
      have tU := t3.trans (hb.mono t3.size)
      by_cases hlt : j < k
      · have hltI : (j : Int) < (k : Int) := by omega
        have hltL : (j : Int) < (l.length : Int) := by omega
        have hj0 : (0 : Int) ≤ (j : Int) := by omega
        have jw : IntKind.i64.wrap ((j : Int) + 1) = (j : Int) + 1 := IntWalk.i64_in _ (by omega)
        obtain ⟨bb, off, ra, lb, hcl⟩ := (hl.below tU) j (by omega)
        have h80j := h80 _ (List.getElem_mem (show j < l.length by omega))
        have hsz' := hsz.out j (by omega)
        have hlj := hle j (by omega)
        generalize l[j] = s at hcl h80j hsz'
        subst ra
        replace hsz' := Lib.hid hsz'
        go_wp2_with fail
        go_round
        case rel => exact ⟨j + 1, by omega, by rw [hsz'.out]; first | rfl | (congr 1; done) | (congr 1; omega), by go_num, hb⟩
        case measure => simp [intOf]; omega
      · obtain rfl : j = k := by omega
        obtain ⟨bb, off, ra, lb, hcl⟩ := (hl.below tU) j hk
        have h80j := h80 _ (List.getElem_mem hk)
        have hlj := hle j (by omega)
        generalize l[j] = s at hcl h80j hrw hsp
        subst ra
        have hto : ¬ (B.length : Int) < (zIe (zG9 (l.take j)) : Int) + 10 + (s.size : Int) := by
          have h1 := hsp.out
          have h2 := zLh s.data.toList j
          have h3 : (s.data.toList).length = s.size := Array.length_toList
          rw [List.length_append, List.length_append, zOM] at h1
          omega
        go_upto_region 13 with fail
        obtain ⟨T, hT⟩ : ∃ T, zIe (zG9 (l.take j)) = T := ⟨_, rfl⟩
        rw [hT] at hrw hlj hto ⊢
        have hTB : T + 10 + s.size ≤ B.length := by omega
        have hT1 : T ≤ ce := by omega
        have hT2 : (T : Int) + 10 + (s.size : Int) ≤ (B.length : Int) := by omega
        have hT4 : (T : Int) ≤ (T : Int) + 10 + (s.size : Int) := by omega
        have hT3 : (0 : Int) ≤ (T : Int) + 10 + (s.size : Int) := by omega
        have o3' := o3.kept hb
        have hsrc := SrcAt.own o3'
        have hs1 := src_take hsrc T
        obtain ⟨g, rfl⟩ : ∃ g, ae = some ⟨g, 0, none⟩ := by
          rcases o3.form with ⟨_, h2, _⟩ | ⟨g, h1, _⟩
          · omega
          · exact ⟨g, h1⟩
        obtain ⟨R2, hR2e⟩ : ∃ R2, B.drop (T + 10 + s.size) = R2 := ⟨_, rfl⟩
        have hR2 : R2.length = B.length - (T + 10 + s.size) := by rw [← hR2e, List.length_drop]
        rw [hR2e] at hrw
        have hs2 := src_sub hsrc (T + 10 + s.size) (B.length - (T + 10 + s.size))
        rw [Nat.zero_add, List.take_of_length_le (by rw [List.length_drop]; omega), hR2e] at hs2
        replace hR2e := Lib.hid hR2e
        have hs3 : SrcAt wr (if ce = T + 10 + s.size then some ⟨g, 0, none⟩ else some ⟨g, T + 10 + s.size, none⟩) (zDB R2) := by
          split
          · have hR0 : R2 = [] := List.eq_nil_of_length_eq_zero (by omega)
            intro j u hu
            rw [hR0] at hu; simp [zDB] at hu
          · exact hs2
        have hax : ∃ ax, (if ce = T + 10 + s.size then some (⟨g, 0, none⟩ : Addr) else some ⟨g, T + 10 + s.size, none⟩) = some ax := by split <;> exact ⟨_, rfl⟩
        obtain ⟨ax, hax⟩ := hax
        rw [hax] at hs3
        have etn : ((T : Int) + 10 + (s.size : Int)).toNat = T + 10 + s.size := by omega
        replace hax := Lib.hid hax
        replace hT := Lib.hid hT
        replace etn := Lib.hid etn
        replace hR2 := Lib.hid hR2
        refine (wpIn_wide (n := 5)).1 ?_
        refine wpIn_region_head opF_wide 7 7 87 [true, true, true, false, true, true, true] [fun v w' => OwnV 5 1 wr.heap.size T (zDB (B.take T)) v w'] (by kernel_rfl) (by kernel_rfl) (by kernel_rfl) rfl (zAB (fun v w w' h hb => h.kept hb) zAR) ?_
        simp only [zAF, zAt, zAU, List.filterMap_cons, List.filterMap_nil, List.getElem?_toArray, List.getElem?_cons_succ, List.getElem?_cons_zero, Act.put, List.setIfInBounds_toArray, List.set_cons_zero, List.set_cons_succ, List.take_succ_cons, List.take_zero, List.drop_succ_cons, List.drop_zero]
        (repeat (refine zAL (fun K hK => ?_); go_simp; first | (refine hK _ ?_; clear hK K) | (apply Exists.intro; refine ⟨fun ex => ?_, hK _ ?_⟩; (fail); clear hK K)))
        refine zAQ ?_
        simp only [relOblG, under, zAZ, and_true, List.nil_append, List.cons_append]
        refine ⟨?_, ?_⟩
        · intro e
          refine .inl ⟨by kernel_rfl, ?_⟩
          exact gives_appn zQN e.to wr.heap.size e.below.size _ _ rfl rfl _ T ce (zDB (B.take T)) rfl (fun h => by cases h) (by rw [zLD, List.length_take]; omega) (zAO hs1 e.below) (zLC _) (by unfold maxLen; omega) (by omega)
        · intro e v1 h1
          obtain ⟨a1, c1, rfl, o1⟩ := h1
          simp only [Act.put, List.setIfInBounds_toArray, List.set_cons_zero, List.set_cons_succ, etn.out, hax.out]
          refine wpAnyIn_one 7 (by kernel_rfl) ?_
          (unfold wpOpIn; simp only [List.getElem?_toArray, List.getElem?_cons_succ, List.getElem?_cons_zero]); refine wpIf_gives opF_wide (by rfl) (by intro c h; cases h) _ (gives_app_own zQN e.to wr.heap.size e.below.size (.tmp 66) (.tmp 69) (by rfl) a1 T c1 _ (by rfl) o1 (some ax) (B.length - (T + 10 + s.size)) (ce - (T + 10 + s.size)) (zDB R2) (by rfl) (fun h => by cases h) (by rw [zLD, hR2.out]; omega) (zAO hs3 e.below) (zLC _) (by unfold maxLen; omega) (by omega)) ?_
          rintro v2 W2 ⟨b2, a2', c2', rfl, o2⟩
          simp only [Act.put, List.setIfInBounds_toArray, List.set_cons_zero, List.set_cons_succ]
          have hf2 := o2.fits.1
          have bU : Below w.heap.size w W2 := tU.trans (e.below.mono tU.size |>.trans (b2.mono tU.size))
          have hN : (B.take T ++ R2).length = T + (B.length - (T + 10 + s.size)) := by rw [List.length_append, List.length_take, hR2.out]; omega
          have rcx := Recover_as a2' c2' _ j (T : Int) (B.take T ++ R2) (l.take j) W2 hN (by omega) hf2 (by rw [zLE]; exact SrcAt.own o2) (hv.below bU) hrw.out (by rw [List.length_take]; omega) (by rw [hT.out])
          refine wpAnyIn_one 8 (by kernel_rfl) ?_
          (unfold wpOpIn; simp only [List.getElem?_toArray, List.getElem?_cons_succ, List.getElem?_cons_zero]); refine wpIf_gives opF_wide (by rfl) (by intro c h; cases h) (fun v w' => (∃ a' c', v = .tuple #[.slice a' j c', .int .i64 (T : Int)] ∧ OwnL 9 1 W2.heap.size w' a' c' j ((l.take j).map Value.string)) ∧ Below W2.heap.size W2 w') ?_ ?_
          · go_simp
            refine rcx.mono ?_
            rintro _ _ ⟨⟨a', c', rfl, o⟩, b⟩
            exact ⟨⟨a', c', rfl, by rw [← List.map_take]; exact o⟩, b⟩
          rintro v3 W3 ⟨⟨a3, c3, rfl, o3⟩, b3⟩
          simp only [Act.put, List.setIfInBounds_toArray, List.set_cons_zero, List.set_cons_succ]
          refine wpAnyIn_one 9 (by kernel_rfl) ?_
          (unfold wpOpIn; simp only [List.getElem?_toArray, List.getElem?_cons_succ, List.getElem?_cons_zero]); refine wpIf_gives opF_wide (by rfl) (by intro c h; cases h) (fun v w' => v = .tuple #[.slice a3 j c3, .int .i64 (T : Int)] ∧ W3 = w') (by go_simp) ?_
          rintro _ _ ⟨rfl, rfl⟩
          simp only [Act.put, List.setIfInBounds_toArray, List.set_cons_zero, List.set_cons_succ]
          have t3 := bU.trans (b3.mono bU.size)
          refine wpAnyIn_two 10 11 (by kernel_rfl) ?_ ?_
          · (unfold wpOpIn; simp only [List.getElem?_toArray, List.getElem?_cons_succ, List.getElem?_cons_zero]); refine wpIf_gives opF_wide (by rfl) (by intro c h; cases h) (fun v w' => v = .slice a3 j c3 ∧ W3 = w') (by go_simp) ?_
            rintro _ _ ⟨rfl, rfl⟩
            simp only [Act.put, List.setIfInBounds_toArray, List.set_cons_zero, List.set_cons_succ]
            refine wpAnyIn_two 11 12 (by kernel_rfl) ?_ ?_
            · (unfold wpOpIn; simp only [List.getElem?_toArray, List.getElem?_cons_succ, List.getElem?_cons_zero]); refine wpIf_gives opF_wide (by rfl) (by intro c h; cases h) (fun v w' => v = .int .i64 (T : Int) ∧ W3 = w') (by go_simp) ?_
              rintro _ _ ⟨rfl, rfl⟩
              simp only [Act.put, List.setIfInBounds_toArray, List.set_cons_zero, List.set_cons_succ]
              refine wpAnyIn_one 12 (by kernel_rfl) ?_
              (unfold wpOpIn; simp only [List.getElem?_toArray, List.getElem?_cons_succ, List.getElem?_cons_zero]); refine wpIf_gives opF_wide (by rfl) (by intro c h; cases h) (fun v w' => v = .slice a3 j c3 ∧ W3 = w') (by go_simp) ?_
              rintro _ _ ⟨rfl, rfl⟩
              simp only [Act.put, List.setIfInBounds_toArray, List.set_cons_zero, List.set_cons_succ]
              refine wpAnyIn_one 13 (by kernel_rfl) ?_
              (unfold wpOpIn; simp only [List.getElem?_toArray, List.getElem?_cons_succ, List.getElem?_cons_zero]); refine wpIf_gives opF_wide (by rfl) (by intro c h; cases h) (fun v w' => v = .int .i64 (T : Int) ∧ W3 = w') (by go_simp) ?_
              rintro _ _ ⟨rfl, rfl⟩
              simp only [Act.put, List.setIfInBounds_toArray, List.set_cons_zero, List.set_cons_succ]
              refine wpAnyIn_end (by kernel_rfl) ?_
              clear rcx o1 o2 hs1 hs2 hs3 hsrc etn hax hR2e hR2 hrw hsp hto
              go_wp2_with fail
              go_at_call 69
              refine (texts_as a3 _ c3 c j (l.take j) W3 (by rw [List.length_take]; omega) o3.strs ((hl.take j).below t3) (by omega)).mono ?_
              rintro e W4 ⟨rfl, b4⟩
              have t4 := t3.trans (b4.mono t3.size)
              go_wp2_with fail
              go_at_call 37
              refine (zQX W4 (hv.below t4)).mono ?_
              rintro e W5 ⟨rfl, b5⟩
              go_wp2_with fail
              go_ret
              exact ⟨rfl, t4.trans (b5.mono t4.size)⟩
            · (unfold wpOpIn; simp only [List.getElem?_toArray, List.getElem?_cons_succ, List.getElem?_cons_zero]); refine wpIf_gives opF_wide (by rfl) (by intro c h; cases h) (fun v w' => v = .slice a3 j c3 ∧ W3 = w') (by go_simp) ?_
              rintro _ _ ⟨rfl, rfl⟩
              simp only [Act.put, List.setIfInBounds_toArray, List.set_cons_zero, List.set_cons_succ]
              refine wpAnyIn_one 11 (by kernel_rfl) ?_
              (unfold wpOpIn; simp only [List.getElem?_toArray, List.getElem?_cons_succ, List.getElem?_cons_zero]); refine wpIf_gives opF_wide (by rfl) (by intro c h; cases h) (fun v w' => v = .int .i64 (T : Int) ∧ W3 = w') (by go_simp) ?_
              rintro _ _ ⟨rfl, rfl⟩
              simp only [Act.put, List.setIfInBounds_toArray, List.set_cons_zero, List.set_cons_succ]
              refine wpAnyIn_one 13 (by kernel_rfl) ?_
              (unfold wpOpIn; simp only [List.getElem?_toArray, List.getElem?_cons_succ, List.getElem?_cons_zero]); refine wpIf_gives opF_wide (by rfl) (by intro c h; cases h) (fun v w' => v = .int .i64 (T : Int) ∧ W3 = w') (by go_simp) ?_
              rintro _ _ ⟨rfl, rfl⟩
              simp only [Act.put, List.setIfInBounds_toArray, List.set_cons_zero, List.set_cons_succ]
              refine wpAnyIn_end (by kernel_rfl) ?_
              clear rcx o1 o2 hs1 hs2 hs3 hsrc etn hax hR2e hR2 hrw hsp hto
              go_wp2_with fail
              go_at_call 69
              refine (texts_as a3 _ c3 c j (l.take j) W3 (by rw [List.length_take]; omega) o3.strs ((hl.take j).below t3) (by omega)).mono ?_
              rintro e W4 ⟨rfl, b4⟩
              have t4 := t3.trans (b4.mono t3.size)
              go_wp2_with fail
              go_at_call 37
              refine (zQX W4 (hv.below t4)).mono ?_
              rintro e W5 ⟨rfl, b5⟩
              go_wp2_with fail
              go_ret
              exact ⟨rfl, t4.trans (b5.mono t4.size)⟩
          · (unfold wpOpIn; simp only [List.getElem?_toArray, List.getElem?_cons_succ, List.getElem?_cons_zero]); refine wpIf_gives opF_wide (by rfl) (by intro c h; cases h) (fun v w' => v = .int .i64 (T : Int) ∧ W3 = w') (by go_simp) ?_
            rintro _ _ ⟨rfl, rfl⟩
            simp only [Act.put, List.setIfInBounds_toArray, List.set_cons_zero, List.set_cons_succ]
            refine wpAnyIn_one 10 (by kernel_rfl) ?_
            (unfold wpOpIn; simp only [List.getElem?_toArray, List.getElem?_cons_succ, List.getElem?_cons_zero]); refine wpIf_gives opF_wide (by rfl) (by intro c h; cases h) (fun v w' => v = .slice a3 j c3 ∧ W3 = w') (by go_simp) ?_
            rintro _ _ ⟨rfl, rfl⟩
            simp only [Act.put, List.setIfInBounds_toArray, List.set_cons_zero, List.set_cons_succ]
            refine wpAnyIn_one 12 (by kernel_rfl) ?_
            (unfold wpOpIn; simp only [List.getElem?_toArray, List.getElem?_cons_succ, List.getElem?_cons_zero]); refine wpIf_gives opF_wide (by rfl) (by intro c h; cases h) (fun v w' => v = .slice a3 j c3 ∧ W3 = w') (by go_simp) ?_
            rintro _ _ ⟨rfl, rfl⟩
            simp only [Act.put, List.setIfInBounds_toArray, List.set_cons_zero, List.set_cons_succ]
            refine wpAnyIn_one 13 (by kernel_rfl) ?_
            (unfold wpOpIn; simp only [List.getElem?_toArray, List.getElem?_cons_succ, List.getElem?_cons_zero]); refine wpIf_gives opF_wide (by rfl) (by intro c h; cases h) (fun v w' => v = .int .i64 (T : Int) ∧ W3 = w') (by go_simp) ?_
            rintro _ _ ⟨rfl, rfl⟩
            simp only [Act.put, List.setIfInBounds_toArray, List.set_cons_zero, List.set_cons_succ]
            refine wpAnyIn_end (by kernel_rfl) ?_
            clear rcx o1 o2 hs1 hs2 hs3 hsrc etn hax hR2e hR2 hrw hsp hto
            go_wp2_with fail
            go_at_call 69
            refine (texts_as a3 _ c3 c j (l.take j) W3 (by rw [List.length_take]; omega) o3.strs ((hl.take j).below t3) (by omega)).mono ?_
            rintro e W4 ⟨rfl, b4⟩
            have t4 := t3.trans (b4.mono t3.size)
            go_wp2_with fail
            go_at_call 37
            refine (zQX W4 (hv.below t4)).mono ?_
            rintro e W5 ⟨rfl, b5⟩
            go_wp2_with fail
            go_ret
            exact ⟨rfl, t4.trans (b5.mono t4.size)⟩
end Go.Proofs.YticjeianiahppaaGreatDoor
