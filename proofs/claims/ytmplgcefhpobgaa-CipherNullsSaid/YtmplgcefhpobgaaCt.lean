/- cipher: asked -/
import Derived.Test.YtmplgcefhpobgaaCs
namespace Go.Proofs.Ytmplgcefhpobgaa
set_option linter.unusedVariables false
set_option linter.unusedSimpArgs false
set_option linter.unnecessarySimpa false
open Go.RowKit Go.Flow

def guessOk (s : Int) (nc : Nat) (x : Int × Int) : Bool := ownOk nc x.1 && plainOk s x.2

/-- The four cells of a book. -/
structure BookAt (w : World) (B : Nat) (s wo : Int) (ak : Option Addr) (nk ck : Nat) (ad : Option Addr) (nd cd : Nat) : Prop where
  c0 : w.cell? ⟨B, 0, none⟩ = some (.int .i64 s)
  c1 : w.cell? ⟨B, 1, none⟩ = some (.int .i64 wo)
  c2 : w.cell? ⟨B, 2, none⟩ = some (.slice ak nk ck)
  c3 : w.cell? ⟨B, 3, none⟩ = some (.slice ad nd cd)
theorem BookAt.below {w w' : World} {B : Nat} {s wo : Int} {ak : Option Addr} {nk ck : Nat} {ad : Option Addr} {nd cd : Nat} (h : BookAt w B s wo ak nk ck ad nd cd) (hb : Below w.heap.size w w') : BookAt w' B s wo ak nk ck ad nd cd :=
  ⟨below_cell hb h.c0, below_cell hb h.c1, below_cell hb h.c2, below_cell hb h.c3⟩
theorem BookAt.lt {w : World} {B : Nat} {s wo : Int} {ak : Option Addr} {nk ck : Nat} {ad : Option Addr} {nd cd : Nat} (h : BookAt w B s wo ak nk ck ad nd cd) : B < w.heap.size := cell_lt h.c0
theorem BookAt.new (w : World) (s wo : Int) (ak : Option Addr) (nk ck : Nat) (ad : Option Addr) (nd cd : Nat) (T : TypeId) : BookAt (w.alloc (.cells #[.int .i64 s, .int .i64 wo, .slice ak nk ck, .slice ad nd cd] T)) w.heap.size s wo ak nk ck ad nd cd :=
  ⟨cell_new w _ T 0 _ rfl, cell_new w _ T 1 _ rfl, cell_new w _ T 2 _ rfl, cell_new w _ T 3 _ rfl⟩

set_option maxHeartbeats 1000000 in
theorem fine_meets (s wo : Int) (ak : Option Addr) (nk ck : Nat) (ad : Option Addr) (nd cd : Nat) (Bb Bc : Nat) (ac : Option Addr) (nc cc : Nat) (x : Int × Int) (w : World) (hb : BookAt w Bb s wo ak nk ck ad nd cd) (hc : w.cell? ⟨Bc, 0, none⟩ = some (.slice ac nc cc))
    (s0 : 0 ≤ s) (s1 : s ≤ 1000) (hn : nc ≤ 1000) : Meets Try.prog w 94 #[] #[.pointer (some ⟨Bc, 0, none⟩), .pointer (some ⟨Bb, 0, none⟩)] (.agg #[.int .i64 x.1, .int .i64 x.2]) (guessOk s nc x) := by
  intro w1 hw
  obtain ⟨q0, q1, q2, q3⟩ := hb.below hw
  have qc := below_cell hw hc
  have lB := cell_lt q0
  have lC := cell_lt qc
  simp only at lB lC
  clear hb hc hw
  show Calls Try.prog 94 #[.agg #[.int .i64 x.1, .int .i64 x.2], .pointer (some ⟨Bc, 0, none⟩), .pointer (some ⟨Bb, 0, none⟩)] w1 _
  cases h1 : ownOk nc x.1
  all_goals
    unfold guessOk
    rw [h1]
    have H1 := Lib.hid h1
    clear h1
    go_enter Try.func94, Try.ntmps94
    go_wp2_with (first
      | (go_at_call 51; refine (within_any _ _ _ _).mono ?_; rintro e w2 ⟨rfl, rfl⟩; rw [show (decide (0 ≤ x.1) && decide (x.1 ≤ (nc : Int) - 1)) = _ from H1.out])
      | (go_at_call 57; refine (plain_any s wo x.2 _ _ _ s0 s1).mono ?_; rintro e w3 ⟨rfl, hb3⟩; obtain ⟨hc3, hf3, hz3⟩ := bcell hb3))
    go_ret
    exact ⟨by simp [plainOk], by (repeat (first | exact Below.refl _ _ | refine Below.alloc ?_ (by first | omega | (simp; done) | (simp; omega)) _ | refine Below.drew ?_ | refine Below.setCell ?_ (by first | omega | (simp; done) | (simp; omega)) _ | refine Below.trans ?_ (Below.mono (by assumption) (by first | omega | (simp; done) | (simp; omega)))))⟩

def askErr (s wo : Int) (ks : List (Int × Int × Int)) (ds : List Int) (codes : List Int) (gs : List (Int × Int)) : Int :=
  if bookErr s wo ks ds ≠ 0 then bookErr s wo ks ds
  else if 10 < (codes.length : Int) ∨ 6 < (gs.length : Int) then 3
  else if codes.all (plainOk s) = true ∧ gs.all (guessOk s codes.length) = true then 0
  else 2

set_option maxHeartbeats 1000000 in
theorem asked_any (s wo : Int) (ak : Option Addr) (ks : List (Int × Int × Int)) (ck : Nat) (ad : Option Addr) (ds : List Int) (cd : Nat) (ac : Option Addr) (codes : List Int) (cc : Nat) (ag : Option Addr) (gs : List (Int × Int)) (cg : Nat) (w : World) (hk : Recs3At w ak ks) (hd : IntsAt w ad ds) (lk : ks.length ≤ 1000) (ld : ds.length ≤ 1000) (hc : IntsAt w ac codes) (lc : codes.length ≤ 1000) (hg : Recs2At w ag gs) (lg : gs.length ≤ 1000) :
    Calls Try.prog 78 #[.agg #[.int .i64 s, .int .i64 wo, .slice ak ks.length ck, .slice ad ds.length cd], .slice ac codes.length cc, .slice ag gs.length cg] w fun e w' => e = .returned (.int .i64 (askErr s wo ks ds codes gs)) ∧ Below w.heap.size w w' := by
  by_cases hbk : bookErr s wo ks ds = 0
  · have Hbk := Lib.hid hbk
    obtain ⟨_, _, s0, s1, _⟩ := bookErr_ok hbk
    have hB := BookAt.new w s wo ak ks.length ck ad ds.length cd 32
    have hbC : Below (w.alloc (.cells #[.int .i64 s, .int .i64 wo, .slice ak ks.length ck, .slice ad ds.length cd] 32)).heap.size (w.alloc (.cells #[.int .i64 s, .int .i64 wo, .slice ak ks.length ck, .slice ad ds.length cd] 32))
      ((w.alloc (.cells #[.int .i64 s, .int .i64 wo, .slice ak ks.length ck, .slice ad ds.length cd] 32)).alloc (.cells #[.slice ac codes.length cc] 23)) := (Below.refl _ _).alloc (Nat.le_refl _) _
    have hB2 := hB.below hbC
    have hC2 := cell_new (w.alloc (.cells #[.int .i64 s, .int .i64 wo, .slice ak ks.length ck, .slice ad ds.length cd] 32)) #[.slice ac codes.length cc] 23 0 _ rfl
    rw [show (w.alloc (.cells #[.int .i64 s, .int .i64 wo, .slice ak ks.length ck, .slice ad ds.length cd] 32)).heap.size = w.heap.size + 1 by simp] at hC2
    have HB2 := Lib.hid hB2
    have HC2 := Lib.hid hC2
    clear hB hB2 hC2 hbC
    by_cases t1 : 10 < (codes.length : Int)
    · have e1 : askErr s wo ks ds codes gs = 3 := by unfold askErr; rw [if_neg (by simp [hbk]), if_pos (.inl t1)]
      rw [e1]
      clear e1
      go_enter Try.func78, Try.ntmps78
      go_wp2_with (go_at_call 18; refine (checkBook_any s wo ak ks ck ad ds cd _ (hk.below (by (repeat (first | exact Below.refl _ _ | refine Below.alloc ?_ (by first | omega | (simp; done) | (simp; omega)) _ | refine Below.drew ?_ | refine Below.setCell ?_ (by first | omega | (simp; done) | (simp; omega)) _ | refine Below.trans ?_ (Below.mono (by assumption) (by first | omega | (simp; done) | (simp; omega))))))) (hd.below (by (repeat (first | exact Below.refl _ _ | refine Below.alloc ?_ (by first | omega | (simp; done) | (simp; omega)) _ | refine Below.drew ?_ | refine Below.setCell ?_ (by first | omega | (simp; done) | (simp; omega)) _ | refine Below.trans ?_ (Below.mono (by assumption) (by first | omega | (simp; done) | (simp; omega))))))) lk ld).mono ?_; rintro e w1 ⟨rfl, hb1⟩; obtain ⟨hc1, hf1, hz1⟩ := bcell hb1; (try simp at hz1); (try (have hy0 : w.heap.size < w1.heap.size := by omega)); (try (have hy1 : w.heap.size + 1 < w1.heap.size := by omega)); (try (have hy2 : w.heap.size + 2 < w1.heap.size := by omega)))
      go_ret
      exact ⟨rfl, by (repeat (first | exact Below.refl _ _ | refine Below.alloc ?_ (by first | omega | (simp; done) | (simp; omega)) _ | refine Below.drew ?_ | refine Below.setCell ?_ (by first | omega | (simp; done) | (simp; omega)) _ | refine Below.trans ?_ (Below.mono (by assumption) (by first | omega | (simp; done) | (simp; omega)))))⟩
    · by_cases t2 : 6 < (gs.length : Int)
      · have e1 : askErr s wo ks ds codes gs = 3 := by unfold askErr; rw [if_neg (by simp [hbk]), if_pos (.inr t2)]
        rw [e1]
        clear e1
        go_enter Try.func78, Try.ntmps78
        go_wp2_with (go_at_call 18; refine (checkBook_any s wo ak ks ck ad ds cd _ (hk.below (by (repeat (first | exact Below.refl _ _ | refine Below.alloc ?_ (by first | omega | (simp; done) | (simp; omega)) _ | refine Below.drew ?_ | refine Below.setCell ?_ (by first | omega | (simp; done) | (simp; omega)) _ | refine Below.trans ?_ (Below.mono (by assumption) (by first | omega | (simp; done) | (simp; omega))))))) (hd.below (by (repeat (first | exact Below.refl _ _ | refine Below.alloc ?_ (by first | omega | (simp; done) | (simp; omega)) _ | refine Below.drew ?_ | refine Below.setCell ?_ (by first | omega | (simp; done) | (simp; omega)) _ | refine Below.trans ?_ (Below.mono (by assumption) (by first | omega | (simp; done) | (simp; omega))))))) lk ld).mono ?_; rintro e w1 ⟨rfl, hb1⟩; obtain ⟨hc1, hf1, hz1⟩ := bcell hb1; (try simp at hz1); (try (have hy0 : w.heap.size < w1.heap.size := by omega)); (try (have hy1 : w.heap.size + 1 < w1.heap.size := by omega)); (try (have hy2 : w.heap.size + 2 < w1.heap.size := by omega)))
        go_ret
        exact ⟨rfl, by (repeat (first | exact Below.refl _ _ | refine Below.alloc ?_ (by first | omega | (simp; done) | (simp; omega)) _ | refine Below.drew ?_ | refine Below.setCell ?_ (by first | omega | (simp; done) | (simp; omega)) _ | refine Below.trans ?_ (Below.mono (by assumption) (by first | omega | (simp; done) | (simp; omega)))))⟩
      · cases hca : codes.all (plainOk s)
        · have e1 : askErr s wo ks ds codes gs = 2 := by unfold askErr; rw [if_neg (by simp [hbk]), if_neg (by omega), if_neg (by simp [hca])]
          rw [e1]
          have Hca := Lib.hid hca
          clear e1 hca
          go_enter Try.func78, Try.ntmps78
          go_wp2_with (first
            | (go_at_call 18; refine (checkBook_any s wo ak ks ck ad ds cd _ (hk.below (by (repeat (first | exact Below.refl _ _ | refine Below.alloc ?_ (by first | omega | (simp; done) | (simp; omega)) _ | refine Below.drew ?_ | refine Below.setCell ?_ (by first | omega | (simp; done) | (simp; omega)) _ | refine Below.trans ?_ (Below.mono (by assumption) (by first | omega | (simp; done) | (simp; omega))))))) (hd.below (by (repeat (first | exact Below.refl _ _ | refine Below.alloc ?_ (by first | omega | (simp; done) | (simp; omega)) _ | refine Below.drew ?_ | refine Below.setCell ?_ (by first | omega | (simp; done) | (simp; omega)) _ | refine Below.trans ?_ (Below.mono (by assumption) (by first | omega | (simp; done) | (simp; omega))))))) lk ld).mono ?_; rintro e w1 ⟨rfl, hb1⟩; obtain ⟨hc1, hf1, hz1⟩ := bcell hb1; (try simp at hz1); (try (have hy0 : w.heap.size < w1.heap.size := by omega)); (try (have hy1 : w.heap.size + 1 < w1.heap.size := by omega)); (try (have hy2 : w.heap.size + 2 < w1.heap.size := by omega)))
            | (go_at_call 54; refine (all_int ac codes cc 57 #[.agg #[.int .i64 s, .int .i64 wo, .slice ak ks.length ck, .slice ad ds.length cd]] #[] (plainOk s) _ (by omega) (hc.below (by (repeat (first | exact Below.refl _ _ | refine Below.alloc ?_ (by first | omega | (simp; done) | (simp; omega)) _ | refine Below.drew ?_ | refine Below.setCell ?_ (by first | omega | (simp; done) | (simp; omega)) _ | refine Below.trans ?_ (Below.mono (by assumption) (by first | omega | (simp; done) | (simp; omega))))))) (enters Try.func57 (by kernel_rfl) rfl) (fun x _ => plain_meets s wo ak ks ck ad ds cd x _ (by omega) (by omega))).mono ?_; rw [Hca.out]; rintro e w2 ⟨rfl, hb2⟩; obtain ⟨hc2, hf2, hz2⟩ := bcell hb2))
          go_ret
          exact ⟨rfl, by (repeat (first | exact Below.refl _ _ | refine Below.alloc ?_ (by first | omega | (simp; done) | (simp; omega)) _ | refine Below.drew ?_ | refine Below.setCell ?_ (by first | omega | (simp; done) | (simp; omega)) _ | refine Below.trans ?_ (Below.mono (by assumption) (by first | omega | (simp; done) | (simp; omega)))))⟩
        · have Hca := Lib.hid hca
          clear hca
          cases hga : gs.all (guessOk s codes.length)
          all_goals
            have e1 : askErr s wo ks ds codes gs = if gs.all (guessOk s codes.length) then 0 else 2 := by unfold askErr; rw [if_neg (by simp [hbk]), if_neg (by omega)]; simp [Hca.out, hga]
            rw [e1, hga]
            have Hga := Lib.hid hga
            clear e1 hga
            go_enter Try.func78, Try.ntmps78
            go_wp2_with (first
              | (go_at_call 18; refine (checkBook_any s wo ak ks ck ad ds cd _ (hk.below (by (repeat (first | exact Below.refl _ _ | refine Below.alloc ?_ (by first | omega | (simp; done) | (simp; omega)) _ | refine Below.drew ?_ | refine Below.setCell ?_ (by first | omega | (simp; done) | (simp; omega)) _ | refine Below.trans ?_ (Below.mono (by assumption) (by first | omega | (simp; done) | (simp; omega))))))) (hd.below (by (repeat (first | exact Below.refl _ _ | refine Below.alloc ?_ (by first | omega | (simp; done) | (simp; omega)) _ | refine Below.drew ?_ | refine Below.setCell ?_ (by first | omega | (simp; done) | (simp; omega)) _ | refine Below.trans ?_ (Below.mono (by assumption) (by first | omega | (simp; done) | (simp; omega))))))) lk ld).mono ?_; rintro e w1 ⟨rfl, hb1⟩; obtain ⟨hc1, hf1, hz1⟩ := bcell hb1; (try simp at hz1); (try (have hy0 : w.heap.size < w1.heap.size := by omega)); (try (have hy1 : w.heap.size + 1 < w1.heap.size := by omega)); (try (have hy2 : w.heap.size + 2 < w1.heap.size := by omega)))
              | (go_at_call 54; refine (all_int ac codes cc 57 #[.agg #[.int .i64 s, .int .i64 wo, .slice ak ks.length ck, .slice ad ds.length cd]] #[] (plainOk s) _ (by omega) (hc.below (by (repeat (first | exact Below.refl _ _ | refine Below.alloc ?_ (by first | omega | (simp; done) | (simp; omega)) _ | refine Below.drew ?_ | refine Below.setCell ?_ (by first | omega | (simp; done) | (simp; omega)) _ | refine Below.trans ?_ (Below.mono (by assumption) (by first | omega | (simp; done) | (simp; omega))))))) (enters Try.func57 (by kernel_rfl) rfl) (fun x _ => plain_meets s wo ak ks ck ad ds cd x _ (by omega) (by omega))).mono ?_; rw [Hca.out]; rintro e w2 ⟨rfl, hb2⟩; obtain ⟨hc2, hf2, hz2⟩ := bcell hb2)
              | (go_at_call 95; refine (all_guess ag gs cg 94 #[] #[.pointer (some ⟨w.heap.size + 1, 0, none⟩), .pointer (some ⟨w.heap.size, 0, none⟩)] (guessOk s codes.length) _ (by omega) (hg.below (by (repeat (first | exact Below.refl _ _ | refine Below.alloc ?_ (by first | omega | (simp; done) | (simp; omega)) _ | refine Below.drew ?_ | refine Below.setCell ?_ (by first | omega | (simp; done) | (simp; omega)) _ | refine Below.trans ?_ (Below.mono (by assumption) (by first | omega | (simp; done) | (simp; omega))))))) (enters Try.func94 (by kernel_rfl) rfl) (fun x _ => fine_meets s wo ak ks.length ck ad ds.length cd w.heap.size (w.heap.size + 1) ac codes.length cc x _ ((HB2.out.below hb1).below hb2) (below_cell hb2 (below_cell hb1 HC2.out)) (by omega) (by omega) (by omega))).mono ?_; rw [Hga.out]; rintro e w3 ⟨rfl, hb3⟩; obtain ⟨hc3, hf3, hz3⟩ := bcell hb3))
            go_ret
            exact ⟨rfl, by (repeat (first | exact Below.refl _ _ | refine Below.alloc ?_ (by first | omega | (simp; done) | (simp; omega)) _ | refine Below.drew ?_ | refine Below.setCell ?_ (by first | omega | (simp; done) | (simp; omega)) _ | refine Below.trans ?_ (Below.mono (by assumption) (by first | omega | (simp; done) | (simp; omega)))))⟩
  · have e1 : askErr s wo ks ds codes gs = bookErr s wo ks ds := by unfold askErr; rw [if_pos hbk]
    rw [e1]
    have hne : (bookErr s wo ks ds != 0) = true := by simpa using hbk
    clear hbk e1
    go_enter Try.func78, Try.ntmps78
    go_wp2_with (go_at_call 18; refine (checkBook_any s wo ak ks ck ad ds cd _ (hk.below (by (repeat (first | exact Below.refl _ _ | refine Below.alloc ?_ (by first | omega | (simp; done) | (simp; omega)) _ | refine Below.drew ?_ | refine Below.setCell ?_ (by first | omega | (simp; done) | (simp; omega)) _ | refine Below.trans ?_ (Below.mono (by assumption) (by first | omega | (simp; done) | (simp; omega))))))) (hd.below (by (repeat (first | exact Below.refl _ _ | refine Below.alloc ?_ (by first | omega | (simp; done) | (simp; omega)) _ | refine Below.drew ?_ | refine Below.setCell ?_ (by first | omega | (simp; done) | (simp; omega)) _ | refine Below.trans ?_ (Below.mono (by assumption) (by first | omega | (simp; done) | (simp; omega))))))) lk ld).mono ?_; rintro e w1 ⟨rfl, hb1⟩; obtain ⟨hc1, hf1, hz1⟩ := bcell hb1; (try simp at hz1); (try (have hy0 : w.heap.size < w1.heap.size := by omega)); (try (have hy1 : w.heap.size + 1 < w1.heap.size := by omega)); (try (have hy2 : w.heap.size + 2 < w1.heap.size := by omega)))
    go_ret
    exact ⟨rfl, by (repeat (first | exact Below.refl _ _ | refine Below.alloc ?_ (by first | omega | (simp; done) | (simp; omega)) _ | refine Below.drew ?_ | refine Below.setCell ?_ (by first | omega | (simp; done) | (simp; omega)) _ | refine Below.trans ?_ (Below.mono (by assumption) (by first | omega | (simp; done) | (simp; omega)))))⟩
end Go.Proofs.Ytmplgcefhpobgaa
