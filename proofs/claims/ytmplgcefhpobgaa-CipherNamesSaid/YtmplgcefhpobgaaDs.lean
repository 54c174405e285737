/- cipher: the reference's AskFault, asked -/
import Derived.Test.YtmplgcefhpobgaaDr
namespace Go.Proofs.Ytmplgcefhpobgaa
set_option linter.unusedVariables false
set_option linter.unusedSimpArgs false
set_option linter.unnecessarySimpa false
open Go.RowKit Go.Flow

def askN (s : Int) (codes : List Int) (gs : List (Int × Int)) : Int :=
  if 10 < (codes.length : Int) ∨ 6 < (gs.length : Int) then 3 else if codes.all (plainOk s) = true ∧ gs.all (guessOk s codes.length) = true then 0 else 2
set_option maxRecDepth 100000 in
set_option maxHeartbeats 8000000 in
theorem askFault_any (s wo : Int) (bks bds : Value) (ac : Option Addr) (codes : List Int) (cc : Nat) (ag : Option Addr) (gs : List (Int × Int)) (cg : Nat) (w : World) (s0 : 0 ≤ s) (s1 : s ≤ 1000)
    (hc : IntsAt w ac codes) (lc : codes.length ≤ 1000) (hg : Recs2At w ag gs) (lg : gs.length ≤ 1000) :
    Calls Try.prog 81 #[.agg #[.int .i64 s, .int .i64 wo, bks, bds], .slice ac codes.length cc, .slice ag gs.length cg] w fun e w' => e = .returned (.int .i64 (askN s codes gs)) ∧ Below w.heap.size w w' := by
  have cB := Cells.new w #[.int .i64 s, .int .i64 wo, bks, bds] 25
  by_cases h10 : 10 < (codes.length : Int)
  · have d1 : decide (10 < (codes.length : Int)) = true := by simpa using h10
    have Hr : Hid (askN s codes gs = 3) := Lib.hid (if_pos (.inl h10))
    go_enter Try.func81, Try.ntmps81
    go_wp2
    go_ret
    rw [Hr.out]
    exact ⟨rfl, by (repeat (first | exact Below.refl _ _ | refine Below.alloc ?_ (by first | omega | (simp; done) | (simp; omega)) _ | refine Below.drew ?_ | refine Below.setCell ?_ (by first | omega | (simp; done) | (simp; omega)) _ | refine Below.trans ?_ (Below.mono (by assumption) (by first | omega | (simp; done) | (simp; omega)))))⟩
  by_cases h6 : 6 < (gs.length : Int)
  · have d1 : decide (10 < (codes.length : Int)) = false := by simpa using h10
    have d2 : decide (6 < (gs.length : Int)) = true := by simpa using h6
    have Hr : Hid (askN s codes gs = 3) := Lib.hid (if_pos (.inr h6))
    go_enter Try.func81, Try.ntmps81
    go_wp2
    go_ret
    rw [Hr.out]
    exact ⟨rfl, by (repeat (first | exact Below.refl _ _ | refine Below.alloc ?_ (by first | omega | (simp; done) | (simp; omega)) _ | refine Below.drew ?_ | refine Below.setCell ?_ (by first | omega | (simp; done) | (simp; omega)) _ | refine Below.trans ?_ (Below.mono (by assumption) (by first | omega | (simp; done) | (simp; omega)))))⟩
  have d1 : decide (10 < (codes.length : Int)) = false := by simpa using h10
  have d2 : decide (6 < (gs.length : Int)) = false := by simpa using h6
  have hr : askN s codes gs = if codes.all (plainOk s) = true ∧ gs.all (guessOk s codes.length) = true then 0 else 2 := if_neg (by omega)
  have Hr := Lib.hid hr
  clear hr
  cases hpa : codes.all (plainOk s)
  · have HP := Lib.hid hpa
    clear hpa
    go_enter Try.func81, Try.ntmps81
    go_wp2_with fail
    go_at_call 24
    refine (plainRef_eq s wo bks bds ac codes cc false HP _ s0 s1 (hc.below (by (repeat (first | exact Below.refl _ _ | refine Below.alloc ?_ (by first | omega | (simp; done) | (simp; omega)) _ | refine Below.drew ?_ | refine Below.setCell ?_ (by first | omega | (simp; done) | (simp; omega)) _ | refine Below.trans ?_ (Below.mono (by assumption) (by first | omega | (simp; done) | (simp; omega))))))) lc).mono ?_
    rintro e w1 ⟨rfl, b1⟩
    go_wp2_with fail
    go_ret
    rw [Hr.out, if_neg (by rw [HP.out]; simp)]
    exact ⟨rfl, by (repeat (first | exact Below.refl _ _ | refine Below.alloc ?_ (by first | omega | (simp; done) | (simp; omega)) _ | refine Below.drew ?_ | refine Below.setCell ?_ (by first | omega | (simp; done) | (simp; omega)) _ | refine Below.trans ?_ (Below.mono (by assumption) (by first | omega | (simp; done) | (simp; omega)))))⟩
  · have HP := Lib.hid hpa
    clear hpa
    go_enter Try.func81, Try.ntmps81
    go_wp2_with fail
    go_at_call 24
    refine (plainRef_eq s wo bks bds ac codes cc true HP _ s0 s1 (hc.below (by (repeat (first | exact Below.refl _ _ | refine Below.alloc ?_ (by first | omega | (simp; done) | (simp; omega)) _ | refine Below.drew ?_ | refine Below.setCell ?_ (by first | omega | (simp; done) | (simp; omega)) _ | refine Below.trans ?_ (Below.mono (by assumption) (by first | omega | (simp; done) | (simp; omega))))))) lc).mono ?_
    rintro e w1 ⟨rfl, b1⟩
    have cB1 := cB.below b1
    have t1 : Below w.heap.size w w1 := by (repeat (first | exact Below.refl _ _ | refine Below.alloc ?_ (by first | omega | (simp; done) | (simp; omega)) _ | refine Below.drew ?_ | refine Below.setCell ?_ (by first | omega | (simp; done) | (simp; omega)) _ | refine Below.trans ?_ (Below.mono (by assumption) (by first | omega | (simp; done) | (simp; omega)))))
    clear cB
    go_wp2_with fail
    go_loopw [7] (fun i wr => ∃ k : Nat, k ≤ gs.length ∧ i = .int .i64 k ∧ Hid ((gs.take k).all (guessOk s codes.length) = true) ∧ Below w1.heap.size w1 wr) (fun i _ => gs.length - (intOf i).toNat)
    case atStart => exact ⟨0, Nat.zero_le _, rfl, Lib.hid rfl, Below.refl _ _⟩
    case round =>
      obtain ⟨k, hk, rfl, Hn, bR⟩ := hrel
      have tR := t1.trans (bR.mono t1.size)
      by_cases hlt : k < gs.length
      · obtain ⟨b, off, rfl, hbl, g0, g1⟩ := (hg.below tR) k hlt
        have hltI : (k : Int) < (gs.length : Int) := by omega
        obtain ⟨⟨x, y⟩, hxe⟩ : ∃ x, gs[k] = x := ⟨_, rfl⟩
        rw [hxe] at g0 g1
        simp only at g0 g1
        have Hx := Lib.hid hxe
        have cBR := cB1.below bR
        have e0 := cBR.cell 0
        simp at e0
        have lB := cBR.lt
        clear hxe
        have hgk : guessOk s codes.length gs[k] = ((decide (0 ≤ x) && decide (x ≤ (codes.length : Int) - 1)) && (decide (0 ≤ y) && decide (y ≤ s - 1))) := by rw [Hx.out]; rfl
        have Hgk := Lib.hid hgk
        clear hgk
        cases h1 : (decide (0 ≤ x) && decide (x ≤ (codes.length : Int) - 1))
        · have Hf : Hid (askN s codes gs = 2) := Lib.hid (by rw [Hr.out, if_neg (by rw [all_false_at hlt (by rw [Hgk.out, h1]; rfl)]; simp)])
          have H1 := Lib.hid h1
          clear h1
          go_wp2_with fail
          (refine wp_region_ext 22 (by kernel_rfl) (by kernel_rfl) ?_; simp only [List.take_succ_cons, List.take_zero, List.drop_succ_cons, List.drop_zero]; (repeat (go_big_quiet_step (((go_at_call 23; refine Calls_ext_same (in_eq x 0 ((codes.length : Int) - 1) _ H1 _)))))); refine wpQuiet_nil ?_; rintro _ ⟨ex, rfl⟩; have hex := ex.below; have hexz := ex.size; (try simp at hexz); (try (have hy0 : w.heap.size < ex.to.heap.size := by omega)); (try (have hy1 : w.heap.size + 1 < ex.to.heap.size := by omega)); (try (have hy2 : w.heap.size + 2 < ex.to.heap.size := by omega)))
          have bE := ex.below
          go_wp2_with fail
          go_ret
          rw [Hf.out]
          exact ⟨rfl, tR.trans (bE.mono tR.size)⟩
        · cases h2 : (decide (0 ≤ y) && decide (y ≤ s - 1))
          · have Hf : Hid (askN s codes gs = 2) := Lib.hid (by rw [Hr.out, if_neg (by rw [all_false_at hlt (by rw [Hgk.out, h1, h2]; rfl)]; simp)])
            have H1 := Lib.hid h1
            have H2 := Lib.hid h2
            clear h1 h2
            go_wp2_with fail
            (refine wp_region_ext 22 (by kernel_rfl) (by kernel_rfl) ?_; simp only [List.take_succ_cons, List.take_zero, List.drop_succ_cons, List.drop_zero]; (repeat (go_big_quiet_step (((go_at_call 23; first | (with_reducible refine Calls_ext_same (in_eq x 0 ((codes.length : Int) - 1) _ H1 _)) | (with_reducible refine Calls_ext_same (in_eq y 0 (s - 1) _ H2 _))))))); refine wpQuiet_nil ?_; rintro _ ⟨ex, rfl⟩; have hex := ex.below; have hexz := ex.size; (try simp at hexz); (try (have hy0 : w.heap.size < ex.to.heap.size := by omega)); (try (have hy1 : w.heap.size + 1 < ex.to.heap.size := by omega)); (try (have hy2 : w.heap.size + 2 < ex.to.heap.size := by omega)))
            have bE := ex.below
            go_wp2_with fail
            go_ret
            rw [Hf.out]
            exact ⟨rfl, tR.trans (bE.mono tR.size)⟩
          · have Hn2 : Hid ((gs.take (k + 1)).all (guessOk s codes.length) = true) := Lib.hid (all_take_succ hlt Hn.out (by rw [Hgk.out, h1, h2]; rfl))
            have H1 := Lib.hid h1
            have H2 := Lib.hid h2
            clear h1 h2
            go_wp2_with fail
            (refine wp_region_ext 22 (by kernel_rfl) (by kernel_rfl) ?_; simp only [List.take_succ_cons, List.take_zero, List.drop_succ_cons, List.drop_zero]; (repeat (go_big_quiet_step (((go_at_call 23; first | (with_reducible refine Calls_ext_same (in_eq x 0 ((codes.length : Int) - 1) _ H1 _)) | (with_reducible refine Calls_ext_same (in_eq y 0 (s - 1) _ H2 _))))))); refine wpQuiet_nil ?_; rintro _ ⟨ex, rfl⟩; have hex := ex.below; have hexz := ex.size; (try simp at hexz); (try (have hy0 : w.heap.size < ex.to.heap.size := by omega)); (try (have hy1 : w.heap.size + 1 < ex.to.heap.size := by omega)); (try (have hy2 : w.heap.size + 2 < ex.to.heap.size := by omega)))
            have bE := ex.below
            go_wp2_with fail
            go_roundw
            case rel => exact ⟨k + 1, by omega, by go_num, Hn2, bR.trans (bE.mono bR.size)⟩
            case measure => simp [intOf]; omega
      · have Hf : Hid (askN s codes gs = 0) := Lib.hid (by rw [Hr.out, if_pos ⟨HP.out, all_of_take (by omega) Hn.out⟩])
        obtain rfl : k = gs.length := by omega
        go_wp2_with fail
        go_ret
        rw [Hf.out]
        exact ⟨rfl, tR⟩

set_option maxRecDepth 100000 in
set_option maxHeartbeats 4000000 in
theorem askedLaw_any (s wo : Int) (ak : Option Addr) (ks : List (Int × Int × Int)) (ck : Nat) (ad : Option Addr) (ds : List Int) (cd : Nat) (ac : Option Addr) (codes : List Int) (cc : Nat) (ag : Option Addr) (gs : List (Int × Int)) (cg : Nat) (E : Int) (hE : Hid (askErr s wo ks ds codes gs = E)) (w : World) (hk : Recs3At w ak ks) (hd : IntsAt w ad ds) (lk : ks.length ≤ 1000) (ld : ds.length ≤ 1000) (hc : IntsAt w ac codes) (lc : codes.length ≤ 1000) (hg : Recs2At w ag gs) (lg : gs.length ≤ 1000) :
    Calls Try.prog 43 #[.agg #[.int .i64 s, .int .i64 wo, .slice ak ks.length ck, .slice ad ds.length cd], .slice ac codes.length cc, .slice ag gs.length cg] w fun e w' => e = .returned (.int .i64 E) ∧ Below w.heap.size w w' := by
  by_cases hb : bookErr s wo ks ds = 0
  · have Hr : Hid (E = askN s codes gs) := Lib.hid (by rw [← hE.out]; unfold askErr askN; rw [if_neg (by simp [hb])])
    have HB := Lib.hid hb
    obtain ⟨_, _, s0, s1, _⟩ := bookErr_ok hb
    clear hb
    go_enter Try.func43, Try.ntmps43
    go_wp2_with fail
    go_at_call 22
    refine (fault_eq s wo ak ks ck ad ds cd 0 HB _ (hk.below (by (repeat (first | exact Below.refl _ _ | refine Below.alloc ?_ (by first | omega | (simp; done) | (simp; omega)) _ | refine Below.drew ?_ | refine Below.setCell ?_ (by first | omega | (simp; done) | (simp; omega)) _ | refine Below.trans ?_ (Below.mono (by assumption) (by first | omega | (simp; done) | (simp; omega))))))) (hd.below (by (repeat (first | exact Below.refl _ _ | refine Below.alloc ?_ (by first | omega | (simp; done) | (simp; omega)) _ | refine Below.drew ?_ | refine Below.setCell ?_ (by first | omega | (simp; done) | (simp; omega)) _ | refine Below.trans ?_ (Below.mono (by assumption) (by first | omega | (simp; done) | (simp; omega))))))) lk ld).mono ?_
    rintro e w1 ⟨rfl, b1⟩
    have t1 : Below w.heap.size w w1 := by (repeat (first | exact Below.refl _ _ | refine Below.alloc ?_ (by first | omega | (simp; done) | (simp; omega)) _ | refine Below.drew ?_ | refine Below.setCell ?_ (by first | omega | (simp; done) | (simp; omega)) _ | refine Below.trans ?_ (Below.mono (by assumption) (by first | omega | (simp; done) | (simp; omega)))))
    obtain ⟨q0, q1, q2, q3⟩ := BookAt.of (b1.mono (by simp))
    have lB := cell_lt q0
    simp only at lB
    go_wp2_with fail
    go_at_call 81
    refine (askFault_any s wo _ _ ac codes cc ag gs cg _ (by omega) (by omega) (hc.below t1) lc (hg.below t1) lg).mono ?_
    rintro e w2 ⟨rfl, b2⟩
    go_wp2_with fail
    go_ret
    rw [Hr.out]
    exact ⟨rfl, t1.trans (b2.mono t1.size)⟩
  · have Hr : Hid (E = bookErr s wo ks ds) := Lib.hid (by rw [← hE.out]; unfold askErr; rw [if_pos hb])
    obtain ⟨F, hF⟩ : ∃ F, bookErr s wo ks ds = F := ⟨_, rfl⟩
    have hne : (F != 0) = true := by rw [hF] at hb; simpa using hb
    have HF := Lib.hid hF
    clear hb hF
    go_enter Try.func43, Try.ntmps43
    go_wp2_with fail
    go_at_call 22
    refine (fault_eq s wo ak ks ck ad ds cd F HF _ (hk.below (by (repeat (first | exact Below.refl _ _ | refine Below.alloc ?_ (by first | omega | (simp; done) | (simp; omega)) _ | refine Below.drew ?_ | refine Below.setCell ?_ (by first | omega | (simp; done) | (simp; omega)) _ | refine Below.trans ?_ (Below.mono (by assumption) (by first | omega | (simp; done) | (simp; omega))))))) (hd.below (by (repeat (first | exact Below.refl _ _ | refine Below.alloc ?_ (by first | omega | (simp; done) | (simp; omega)) _ | refine Below.drew ?_ | refine Below.setCell ?_ (by first | omega | (simp; done) | (simp; omega)) _ | refine Below.trans ?_ (Below.mono (by assumption) (by first | omega | (simp; done) | (simp; omega))))))) lk ld).mono ?_
    rintro e w1 ⟨rfl, b1⟩
    go_wp2_with fail
    go_ret
    rw [Hr.out, HF.out]
    exact ⟨rfl, by (repeat (first | exact Below.refl _ _ | refine Below.alloc ?_ (by first | omega | (simp; done) | (simp; omega)) _ | refine Below.drew ?_ | refine Below.setCell ?_ (by first | omega | (simp; done) | (simp; omega)) _ | refine Below.trans ?_ (Below.mono (by assumption) (by first | omega | (simp; done) | (simp; omega)))))⟩
end Go.Proofs.Ytmplgcefhpobgaa
