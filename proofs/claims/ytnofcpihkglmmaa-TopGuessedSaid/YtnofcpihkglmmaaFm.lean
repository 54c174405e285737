/- flash: Texts -/
import Derived.Test.YtnofcpihkglmmaaFl
namespace Go.Proofs.Ytnofcpihkglmmaa
set_option linter.unusedVariables false
set_option linter.unusedSimpArgs false
set_option linter.unnecessarySimpa false
open Go.RowKit Go.Flow
/-- All texts of at most so many letters. -/
def TextsF (L : List UInt8) (errs : Int) (ss : List (List UInt8)) (n : Nat) : List (List Int) := (List.range n).flatMap (textsF L errs ss)
theorem TextsF_len (L : List UInt8) (errs : Int) (ss : List (List UInt8)) (hs : ss.length ≤ 10) : ∀ n, n ≤ 11 → (TextsF L errs ss n).length ≤ n * 10000000000
  | 0, _ => by simp [TextsF]
  | n + 1, h => by
    have ih := TextsF_len L errs ss hs n (by omega)
    have := textsF_len L errs ss n hs (by omega)
    rw [TextsF, List.range_succ, List.flatMap_append, List.length_append, List.flatMap_singleton, Nat.succ_mul]
    rw [TextsF] at ih
    omega
theorem RowsV.base_le {base base' : Nat} {w : World} {vs : List Value} {rows : List (List Int)} (h : RowsV base w vs rows) (hb : base' ≤ base) : RowsV base' w vs rows := h.mono' fun _ _ ⟨a, c, h1, h2⟩ => ⟨a, c, h1, h2.base_le hb⟩
section
variable (a : Option Addr) (ss : List ByteArray) (c : Nat) (s : ByteArray) (errs : Int) (m : Nat) (L : List UInt8) (SS : List (List UInt8)) (hL : s.data.toList = L) (hSS : ss.map (fun x => x.data.toList) = SS) (hs : SignsOk s) (hm : m ≤ 5) (he : 0 ≤ errs ∧ errs ≤ 3) (ok : CodeOk ss) (w : World) (hx : StrsAt w a ss) (hc : ss.length ≤ c)
include hL hSS hs hm he ok hx hc
set_option maxRecDepth 100000 in
set_option maxHeartbeats 2000000 in
theorem Texts_any : Calls Try.prog 21 #[.agg #[.slice a ss.length c], .string s, .int .i64 errs, .int .i64 (m : Int)] w fun e w' =>
    ∃ ao co vs, e = .returned (.tuple #[.slice ao vs.length co, .int .i64 0]) ∧ OwnL 26 1 w.heap.size w' ao co vs.length vs ∧ RowsV w.heap.size w' vs (TextsF L errs SS (m + 1)) ∧ Below w.heap.size w w' := by
  have hpos := ok.pos
  have h6 := ok.le
  have hsz : ∀ x ∈ ss, x.size ≤ 1000 := fun x hxm => by have := (ok.size x hxm).2; omega
  have hcode := fun W (b : Below w.heap.size w W) => checkCode_ok a ss c W (hx.below b) hc ok
  have hsig := fun W (b : Below w.heap.size w W) => checkSigns_ok (some ⟨W.heap.size, 0, none⟩) s (W.alloc (.cells #[.string s] 9)) (fun k hk => by
    obtain rfl : k = 0 := by simpa using hk
    exact ⟨W.heap.size, 0, rfl, by simp, (Cells.new W #[.string s] 9).cell 0⟩) hs
  have htx := fun W (b : Below w.heap.size w W) (k : Nat) (hk : k ≤ 10) => texts_any a ss c s errs k L SS hL hSS hs.1 hk hsz (by omega) hpos W (hx.below b)
  have hw1 := fun W => f2_within_any errs 0 3 W
  have hw2 := fun W => f2_within_any (m : Int) 0 5 W
  have hTl := TextsF_len L errs SS (by rw [← hSS]; simp; omega)
  rw [show (decide ((0 : Int) ≤ errs) && decide (errs ≤ 3)) = true by simp; omega] at hw1
  rw [show (decide ((0 : Int) ≤ (m : Int)) && decide ((m : Int) ≤ 5)) = true by simp; omega] at hw2
  have HTl := Lib.hid hTl
  clear hTl hL hSS hs ok hsz hx
  go_enter Try.func21, Try.ntmps21
  go_wp2_with fail
  go_at_call 48
  refine (hcode _ (by (repeat (first | exact Below.refl _ _ | refine Below.alloc ?_ (by first | omega | (simp; done) | (simp; omega)) _ | refine Below.drew ?_ | refine Below.setCell ?_ (by first | omega | (simp; done) | (simp; omega)) _ | refine Below.trans ?_ (Below.mono (by assumption) (by first | omega | (simp; done) | (simp; omega))))))).mono ?_
  rintro e w1 ⟨rfl, b1⟩
  have t1 : Below w.heap.size w w1 := by (repeat (first | exact Below.refl _ _ | refine Below.alloc ?_ (by first | omega | (simp; done) | (simp; omega)) _ | refine Below.drew ?_ | refine Below.setCell ?_ (by first | omega | (simp; done) | (simp; omega)) _ | refine Below.trans ?_ (Below.mono (by assumption) (by first | omega | (simp; done) | (simp; omega)))))
  have C1 := (Cells.new w #[.slice a ss.length c] 64).below b1
  clear b1 hcode
  go_wp2_with fail
  go_at_call 49
  refine (hsig _ t1).mono ?_
  rintro e w2 ⟨rfl, b2⟩
  have ta := t1.alloc t1.size (.cells #[.string s] 9)
  have t2 : Below w.heap.size w w2 := ta.trans (b2.mono ta.size)
  have C2 := (C1.alloc (.cells #[.string s] 9)).below b2
  have q0 := C2.cell 0
  simp at q0
  have lq := C2.lt
  clear b2 hsig ta t1 C1
  go_upto_region 9 with (first | (go_at_call 50; first | (with_reducible refine (hw1 _).mono ?_; rintro e _ ⟨rfl, rfl⟩) | (with_reducible refine (hw2 _).mono ?_; rintro e _ ⟨rfl, rfl⟩)) | fail)
  clear hw1 hw2
  go_upto_region 11 with fail
  obtain ⟨W0, hW0⟩ : ∃ z : World, z = w2.alloc (.cells #[.slice a ss.length c, .string s, .int .i64 errs] 99) := ⟨_, rfl⟩
  have t3 : Below w.heap.size w W0 := by rw [hW0]; exact t2.alloc t2.size _
  have K3 : Cells W0 w2.heap.size #[.slice a ss.length c, .string s, .int .i64 errs] 99 := by rw [hW0]; exact Cells.new _ _ _
  have hw2s := t2.size
  rw [← hW0]
  clear hW0 q0 lq C2 t2
  have iw : IntKind.i64.wrap ((m : Int) + 1) = (m : Int) + 1 := IntWalk.i64_in _ (by omega)
  go_upto_region 12 with fail
  go_loopw [13, 40] (fun o i X => ∃ (k : Nat) (ao : Option Addr) (co : Nat) (vs : List Value), k ≤ m + 1 ∧ i = .int .i64 k ∧ o = .slice ao vs.length co ∧ OwnL 26 1 w.heap.size X ao co vs.length vs ∧ RowsV w.heap.size X vs (TextsF L errs SS k) ∧ Below w.heap.size w X ∧ Cells X w2.heap.size #[.slice a ss.length c, .string s, .int .i64 errs] 99) (fun _ u _ => m + 1 - (intOf u).toNat)
  case atStart => exact ⟨0, none, 0, [], by omega, rfl, rfl, OwnL.nil _ _ _ _, ⟨rfl, fun k hk => by cases hk⟩, t3, K3⟩
  case round =>
    obtain ⟨k, ao, co, vs, hk, rfl, rfl, ho, hr, hb, hK⟩ := hrel
    rename World => X
    by_cases hlt : k < m + 1
    · have hkI : (k : Int) < (m : Int) + 1 := by omega
      have p0 := hK.cell 0
      have p1 := hK.cell 1
      have p2 := hK.cell 2
      simp at p0 p1 p2
      have lt0 := hK.lt
      have hcl := htx X hb k (by omega)
      go_wp2_with fail
      go_at_call 51
      refine hcl.mono ?_
      rintro _ w5 ⟨a5, c5, us, rfl, o5, r5, b5⟩
      have ho5 := ho.kept b5
      have hr5 := hr.kept b5
      have hK5 := hK.below b5
      have hb5 := hb.trans (b5.mono hb.size)
      have hvl : vs.length + us.length ≤ 200000000000 := by
        have h1 := HTl.out (k + 1) (by omega)
        rw [TextsF, List.range_succ, List.flatMap_append, List.length_append, List.flatMap_singleton, ← r5.1] at h1
        have h2 := hr5.1
        rw [TextsF] at h2
        have h3 : (k + 1) * 10000000000 ≤ 6 * 10000000000 := Nat.mul_le_mul_right _ (by omega)
        omega
      have hwX : w.heap.size ≤ w5.heap.size := hb5.size
      have hXw : w.heap.size ≤ X.heap.size := hb.size
      clear hcl ho hr hK hb p0 p1 p2 lt0 hkI b5
      have hnone5 : a5 = none → us.length = 0 ∧ c5 = 0 := fun e => by subst e; exact o5.isnil
      have hone5 : ∀ u ∈ us, u.oneCell' = true := fun u hu => by
        obtain ⟨i, hi⟩ := List.getElem?_of_mem hu
        obtain ⟨a', c', hv, _⟩ := r5.2 i (by rw [← r5.1]; exact (List.getElem?_eq_some_iff.1 hi).1) u hi
        rw [hv]; rfl
      go_wp2_with (at_builtin; refine wpList_app_g elIntsF rfl _ _ rfl w.heap.size ao vs.length co vs rfl ho5 a5 us.length c5 us rfl hnone5 (by simp) (SrcAt.own o5) hone5 (by unfold maxLen; omega) (by omega) hwX ?_)
      intro a6 c6 w6 hown6 hb6 hg6
      have hr6 : RowsV w.heap.size w6 vs (TextsF L errs SS k) := hr5.mono' fun v row ⟨a1, c1, h1, h2⟩ => ⟨a1, c1, h1, h2.grown hg6 (OwnL.apart (by decide) h2 ho5)⟩
      have ho6 : RowsV w.heap.size w6 us (textsF L errs SS k) := (r5.base_le (base' := w.heap.size) hXw).mono' fun v row ⟨a1, c1, h1, h2⟩ => ⟨a1, c1, h1, h2.grown hg6 (OwnL.apart (by decide) h2 ho5)⟩
      have hR6 : RowsV w.heap.size w6 (vs ++ us) (TextsF L errs SS (k + 1)) := by
        rw [TextsF, List.range_succ, List.flatMap_append, List.flatMap_singleton]
        exact RowsV.append hr6 ho6
      have hK6 := hK5.grown hg6 (Cells.not_row hK5 (by decide) ho5)
      have hB6 := hb5.trans hb6
      clear hr6 ho6 hr5 r5 o5 ho5 hK5 hb5 hb6 hg6 hvl hnone5 hone5
      go_wp2
      go_roundw
      case rel => exact ⟨k + 1, a6, c6, vs ++ us, by omega, by go_num, by rw [List.length_append], by rw [List.length_append]; exact hown6, hR6, hB6, hK6⟩
      case measure => simp [intOf]; omega
    · obtain rfl : k = m + 1 := by omega
      have hkI : ¬ ((m : Int) + 1 < (m : Int) + 1) := by omega
      go_wp2
      go_ret2
      exact ⟨ao, co, vs, rfl, ho, hr, hb⟩
end
end Go.Proofs.Ytnofcpihkglmmaa
