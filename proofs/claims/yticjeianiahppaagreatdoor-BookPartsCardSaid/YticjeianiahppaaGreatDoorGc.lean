/- book, laws: Parse of the reference -/
import Derived.Test.YticjeianiahppaaGreatDoorGb
namespace Go.Proofs.YticjeianiahppaaGreatDoor
set_option linter.unusedVariables false
set_option linter.unusedSimpArgs false
set_option linter.unnecessarySimpa false
open Go.RowKit Go.Flow
theorem lit_src (X : World) (x : ByteArray) : SrcAt (X.alloc (.cells #[.string x] 9)) (some ⟨X.heap.size, 0, none⟩) [.string x] := fun j u hu => by
  match j, hu with
  | 0, hu => simp at hu; subst hu; exact ⟨_, 0, rfl, by simp⟩
  | j + 1, hu => simp at hu
theorem spl_size : ∀ (l : List UInt8) (y : List UInt8), y ∈ spl l → y.length ≤ l.length
  | [], y, h => by simp [spl] at h; subst h; simp
  | b :: l, y, h => by
    unfold spl at h
    split at h
    · rcases List.mem_cons.1 h with rfl | h
      · simp
      · have := spl_size l y h; simp; omega
    · split at h
      · simp at h; subst h; simp
      · rename_i z r e
        rcases List.mem_cons.1 h with rfl | h
        · have := spl_size l z (by rw [e]; exact List.mem_cons_self); simp; omega
        · have := spl_size l y (by rw [e]; exact List.mem_cons_of_mem _ h); simp; omega
set_option maxRecDepth 100000 in
set_option maxHeartbeats 4000000 in
theorem Parse_any (s : ByteArray) (w : World) (hs : s.size ≤ 1000) : Calls Tryz.prog 58 #[.string s] w fun e w' => ParsePost s e ∧ Below w.heap.size w w' := by
  obtain ⟨L, hL⟩ : ∃ L, s.data.toList = L := ⟨_, rfl⟩
  have hz : L.length = s.size := by rw [← hL]; rfl
  have hzh := Lib.hid hz
  have ix := str_ix s L hL
  have ex1 : ∀ (k : Nat) (hk : k < L.length) (cur : List UInt8), (⟨cur.toArray⟩ : ByteArray) ++ s.extract k (k + 1) = ⟨(cur ++ [L[k]]).toArray⟩ := by subst hL; exact fun k hk cur => extract_one s k hk cur
  have pw := fun x r (h : spl L = x :: r) => parse_words (s := s) (x := x) (r := r) (by rw [hL]; exact h)
  clear hL hz
  go_enter Tryz.func58, Tryz.ntmps58
  go_wp2_with fail
  go_loopw [5, 6, 7] (fun o wd i X => ∃ (k : Nat) (done : List ByteArray) (cur : List UInt8) (a' : Option Addr) (c' : Nat), k ≤ s.size ∧ i = .int .i64 k ∧ wd = .string ⟨cur.toArray⟩ ∧ o = .slice a' done.length c' ∧ OwnL 9 1 w.heap.size X a' c' done.length (done.map Value.string) ∧ spl (L.take k) = done.map (·.data.toList) ++ [cur] ∧ done.length ≤ k ∧ cur.length ≤ k ∧ Below w.heap.size w X) (fun _ _ i _ => s.size - (intOf i).toNat)
  case atStart => exact ⟨0, [], [], none, 0, Nat.zero_le _, rfl, rfl, rfl, OwnL.nil _ _ _ _, by simp [spl], Nat.le_refl _, Nat.le_refl _, Below.refl _ _⟩
  case round =>
    obtain ⟨k, done, cur, a', c', hk, rfl, rfl, rfl, own, hsp, hdk, hck, bX⟩ := hrel
    replace hsp := Lib.hid hsp
    by_cases hlt : k < s.size
    · have hkI : (k : Int) < (s.size : Int) := by omega
      have hk0 : (0 : Int) ≤ (k : Int) := by omega
      have hkL : k < L.length := by have := hzh.out; omega
      have iw : IntKind.i64.wrap ((k : Int) + 1) = (k : Int) + 1 := IntWalk.i64_in _ (by omega)
      have xk := ix k hkL
      have ek := ex1 k hkL cur
      have hst : L.take (k + 1) = L.take k ++ [L[k]] := List.take_succ_eq_append_getElem hkL
      replace hst := Lib.hid hst
      by_cases h32 : L[k] = 32
      · rw [h32] at xk hst
        replace xk : ∀ W : World, (Instr.index 9 (.string s) (.int .i64 (k : Int))).run Tryz.prog W = .ok (.int .u8 32) W := xk
        have b1 : Below wr.heap.size wr (wr.alloc (.cells #[.string ⟨cur.toArray⟩] 9)) := Joins.below_alloc1 _ _
        clear ix ex1 ek pw
        go_wp2_with (at_builtin; refine wpList_app elStr rfl _ _ rfl w.heap.size _ _ _ _ rfl (own.kept b1) (some ⟨wr.heap.size, 0, none⟩) 1 1 [.string ⟨cur.toArray⟩] rfl (fun h => by cases h) (by simp) (lit_src wr _) (fun u hu => by simp at hu; subst hu; rfl) (by unfold maxLen; omega) (by omega) (by have := bX.size; simp; omega) ?_)
        intro a2 c2 W2 o2 b2
        go_wp2_with fail
        go_round
        case rel => exact ⟨k + 1, done ++ [⟨cur.toArray⟩], [], a2, c2, by omega, by go_num, rfl, by simp, by simpa using o2, by rw [hst.out, spl_sp, hsp.out]; simp, by simp; omega, by simp, (bX.trans (b1.mono bX.size)).trans b2⟩
        case measure => simp [intOf]; omega
      · have n32 := byte_ne h32
        replace n32 : ¬ ((L[k].toNat : Int) = 32) := n32
        have hle : (k : Int) ≤ (s.size : Int) := by omega
        have hle1 : (k : Int) + 1 ≤ (s.size : Int) := by omega
        clear ix ex1 pw
        go_wp2_with fail
        go_round
        case rel => exact ⟨k + 1, done, cur ++ [L[k]], a', c', by omega, by go_num, by first | rfl | rw [ek], rfl, own, by rw [hst.out, spl_ch h32 _ _ _ hsp.out], by omega, by simp; omega, bX⟩
        case measure => simp [intOf]; omega
    · obtain rfl : k = s.size := by omega
      have hsp' : spl L = done.map (·.data.toList) ++ [cur] := by
        have := hsp.out
        rwa [List.take_of_length_le (by have := hzh.out; omega)] at this
      obtain ⟨x, r, hM⟩ : ∃ x r, done ++ [⟨cur.toArray⟩] = x :: r := List.exists_cons_of_ne_nil (by simp)
      have hl1 : done.length = r.length := by have := congrArg List.length hM; simpa using this
      have hw : spl L = x.data.toList :: r.map (·.data.toList) := by
        have := congrArg (List.map fun y : ByteArray => y.data.toList) hM
        simp only [List.map_append, List.map_cons, List.map_nil] at this
        rw [hsp', ← this]
      obtain ⟨pn, py⟩ := pw _ _ hw
      rw [List.length_map] at pn py
      have hMs : (done.map Value.string) ++ [.string ⟨cur.toArray⟩] = (x :: r).map Value.string := by rw [← hM]; simp
      have hr1 : r.length ≤ 1000 := by omega
      have hxs : ∀ y ∈ x :: r, y.size ≤ 1000 := fun y hy => by
        have : y.data.toList ∈ spl L := by
          rw [hw]
          rcases List.mem_cons.1 hy with rfl | hy
          · exact List.mem_cons_self
          · exact List.mem_cons_of_mem _ (List.mem_map_of_mem hy)
        have := spl_size _ _ this
        have h2 : y.data.toList.length = y.size := rfl
        have := hzh.out
        omega
      replace hMs := Lib.hid hMs
      replace hl1 := Lib.hid hl1
      have b1 : Below wr.heap.size wr (wr.alloc (.cells #[.string ⟨cur.toArray⟩] 9)) := Joins.below_alloc1 _ _
      clear ix ex1 pw hsp hsp' hw hM
      go_wp2_with (at_builtin; refine wpList_app elStr rfl _ _ rfl w.heap.size _ _ _ _ rfl (own.kept b1) (some ⟨wr.heap.size, 0, none⟩) 1 1 [.string ⟨cur.toArray⟩] rfl (fun h => by cases h) (by simp) (lit_src wr _) (fun u hu => by simp at hu; subst hu; rfl) (by unfold maxLen; omega) (by omega) (by have := bX.size; simp; omega) ?_)
      intro a2 c2 W2 o2 b2
      have t2 : Below w.heap.size w W2 := (bX.trans (b1.mono bX.size)).trans b2
      rw [hl1.out]
      have o3 : OwnL 9 1 w.heap.size W2 a2 c2 (r.length + 1) ((x :: r).map Value.string) := by rw [← hMs.out, ← hl1.out]; exact o2
      have st := o3.strs
      clear own o2 o3 b1 b2 bX hMs hl1
      obtain ⟨b, off, rfl, lb, h0⟩ := st 0 (by simp)
      simp only [List.getElem_cons_zero, Nat.add_zero] at h0
      have hm := Many_any x W2
      have rw1 : IntKind.i64.wrap ((r.length : Int) + 1 - 1) = (r.length : Int) := by rw [show (r.length : Int) + 1 - 1 = (r.length : Int) by omega]; exact IntWalk.i64_in _ (by omega)
      have rw2 : IntKind.i64.wrap (r.length : Int) = (r.length : Int) := IntWalk.i64_in _ (by omega)
      obtain ⟨mv, hmv⟩ : ∃ z, manyV (cmdOf x.data.toList) = z := ⟨_, rfl⟩
      rw [hmv] at hm pn py
      by_cases hq : mv = (r.length : Int)
      · subst hq
        obtain ⟨c, hcs, hpf⟩ := py rfl
        have hx := Lib.hid (bytes_of (cmd_some hcs))
        replace hpf := Lib.hid hpf
        clear pn py hcs hmv
        go_wp2_with fail
        go_at_call 113
        refine hm.mono ?_
        rintro e W3 ⟨rfl, rfl⟩
        clear hm
        go_wp2_with fail
        go_loopw [8, 9] (fun o i X => ∃ (k : Nat) (nums : List Int) (a3 : Option Addr) (c3 : Nat), k ≤ r.length ∧ i = .int .i64 ((k : Int) + 1) ∧ o = .slice a3 nums.length c3 ∧ OwnL 3 1 W3.heap.size X a3 c3 nums.length (nums.map (Value.int .i64)) ∧ ((r.map (·.data.toList)).take k).mapM numD = some nums ∧ nums.length = k ∧ Below W3.heap.size W3 X) (fun _ i _ => r.length + 1 - (intOf i).toNat)
        case atStart => exact ⟨0, [], none, 0, Nat.zero_le _, rfl, rfl, OwnL.nil _ _ _ _, rfl, rfl, Below.refl _ _⟩
        case round =>
          obtain ⟨k, nums, a3, c3, hk3, rfl, rfl, own3, hnm, hnk, bX3⟩ := hrel
          replace hnm := Lib.hid hnm
          replace hnk := Lib.hid hnk
          have tX := t2.trans (bX3.mono t2.size)
          by_cases hlt3 : k < r.length
          · have hkI : (k : Int) + 1 < (r.length : Int) + 1 := by omega
            have hk0 : (0 : Int) ≤ (k : Int) + 1 := by omega
            have iw : IntKind.i64.wrap ((k : Int) + 1 + 1) = (k : Int) + 1 + 1 := IntWalk.i64_in _ (by omega)
            obtain ⟨b', off', e0, lb', h1⟩ := (st.below bX3) (k + 1) (by simp; omega)
            simp only [Option.some.injEq, Addr.mk.injEq, and_true] at e0
            obtain ⟨rfl, rfl⟩ := e0
            simp only [List.getElem_cons_succ] at h1
            have hnr := Number_any r[k] wr (hxs _ (List.mem_cons_of_mem _ (List.getElem_mem hlt3)))
            have htk : (r.map (·.data.toList)).take (k + 1) = (r.map (·.data.toList)).take k ++ [r[k].data.toList] := by
              rw [List.take_succ_eq_append_getElem (by simpa using hlt3)]; simp
            replace htk := Lib.hid htk
            cases hv : numD r[k].data.toList with
            | none =>
              rw [hv] at hnr
              have hnone : parseF s = none := by rw [hpf.out, mapM_fail (k := k) (by simpa using hlt3) (by simpa using hv)]; rfl
              clear hv st hxs htk
              generalize r[k] = y at h1 hnr
              go_wp2_with fail
              go_at_call 114
              refine hnr.mono ?_
              rintro e W4 ⟨rfl, rfl⟩
              go_wp2_with fail
              go_ret3
              exact ⟨.inl ⟨hnone, rfl⟩, tX⟩
            | some v =>
              have hms := Lib.hid (mapM_snoc hnm.out hv)
              rw [hv] at hnr
              clear hv st hxs hnm
              generalize r[k] = y at h1 hnr htk hms
              have b1 : Below wr.heap.size wr (wr.alloc (.cells #[.int .i64 v] 3)) := Joins.below_alloc1 _ _
              have src : SrcAt (wr.alloc (.cells #[.int .i64 v] 3)) (some ⟨wr.heap.size, 0, none⟩) [.int .i64 v] := fun j u hu => by
                match j, hu with
                | 0, hu => simp at hu; subst hu; exact ⟨_, 0, rfl, by simp⟩
                | j + 1, hu => simp at hu
              have hnl : nums.length ≤ 1000 := by have := hnk.out; omega
              go_wp2_with fail
              go_at_call 114
              refine hnr.mono ?_
              rintro e W4 ⟨rfl, rfl⟩
              go_wp2_with (at_builtin; refine wpList_app Cph.elInt rfl _ _ rfl W3.heap.size _ _ _ _ rfl (own3.kept b1) (some ⟨W4.heap.size, 0, none⟩) 1 1 [.int .i64 v] rfl (fun h => by cases h) (by simp) src (fun u hu => by simp at hu; subst hu; rfl) (by unfold maxLen; omega) (by omega) (by have := bX3.size; simp; omega) ?_)
              intro a5 c5 W5 o5 b5
              go_wp2_with fail
              go_round
              case rel => exact ⟨k + 1, nums ++ [v], a5, c5, by omega, by go_num, by simp, by simpa using o5, by rw [htk.out]; exact hms.out, by have := hnk.out; simp; omega, (bX3.trans (b1.mono bX3.size)).trans b5⟩
              case measure => simp [intOf]; omega
          · obtain rfl : k = r.length := by omega
            have hpo : parseF s = some (c, nums) := by
              rw [hpf.out]
              have := hnm.out
              rw [List.take_of_length_le (by simp)] at this
              rw [this]; rfl
            have h0' := below_cell bX3 h0
            have lb' := cell_lt h0'
            go_wp2_with fail
            go_ret3
            exact ⟨.inr ⟨c, nums, a3, c3, hpo, by rw [hx.out]; rfl⟩, tX⟩
      · have hq2 : (mv != (r.length : Int)) = true := by simpa using hq
        have hnone := pn hq
        replace hmv := Lib.hid hmv
        clear pn py
        go_wp2_with fail
        go_at_call 113
        refine hm.mono ?_
        rintro e W3 ⟨rfl, rfl⟩
        go_wp2_with fail
        go_ret3
        exact ⟨.inl ⟨hnone, rfl⟩, t2⟩
end Go.Proofs.YticjeianiahppaaGreatDoor
