/- cipher: extend (Plan$1) · cipher: Plan · cipher: asked · cipher: which keys agree · cipher: keys (the iterator) · cipher: Fits -/
import Derived.Test.YtnofcpihkglmmaaCm
import Derived.Outline
import Derived.Laws.EntriesVeiled
import Derived.RangeFuncNested
import Derived.RangeFuncBound
import Derived.RangeFuncCalls
import Derived.RangeFuncLeaves
import Derived.Shelf.Abstract
import Derived.Shelf.RegionOpen
import Derived.OwnWalkIn
import Derived.TacticsInMore
import Derived.LoopNIn
import Derived.LoopIn
namespace Go.Proofs.Ytnofcpihkglmmaa
set_option linter.unusedVariables false
set_option linter.unusedSimpArgs false
set_option linter.unnecessarySimpa false
open Go.RowKit Go.Flow

theorem Keep.frozen {bm : Nat} {w w' : World} (h : Keep bm w w') {p : Addr} {v : Value} (hc : w.cell? p = some v) : w'.frozen? p = w.frozen? p :=
  World.frozen?_of_block (h.grown.block p.block (cell_lt hc) (fun e => h.old.ne hc (Option.some.inj e)))
end Go.Proofs.Ytnofcpihkglmmaa

namespace Go.Proofs.Ytnofcpihkglmmaa
set_option linter.unusedVariables false
set_option linter.unusedSimpArgs false
set_option linter.unnecessarySimpa false
open Go.RowKit Go.Flow

theorem cell_new (w : World) (cs : Array Value) (T : TypeId) (k : Nat) (v : Value) (h : cs[k]? = some v) : (w.alloc (.cells cs T)).cell? ⟨w.heap.size, k, none⟩ = some v := by
  show (match (w.alloc (.cells cs T)).heap[w.heap.size]? with | some (.cells c _ _) => c[k]? | _ => none) = some v
  rw [(MapKept.heap_alloc w _).1]
  exact h
end Go.Proofs.Ytnofcpihkglmmaa

namespace Go.Proofs.Ytnofcpihkglmmaa
set_option linter.unusedVariables false
set_option linter.unusedSimpArgs false
set_option linter.unnecessarySimpa false
open Go.RowKit Go.Flow

def guessOk (s : Int) (nc : Nat) (x : Int × Int) : Bool := ownOk nc x.1 && plainOk s x.2

/-- The four cells of a book. -/
structure BookAt (w : World) (B : Nat) (s wo : Int) (ak : Option Addr) (nk ck : Nat) (ad : Option Addr) (nd cd : Nat) : Prop where
  c0 : w.cell? ⟨B, 0, none⟩ = some (.int .i64 s)
  c1 : w.cell? ⟨B, 1, none⟩ = some (.int .i64 wo)
  c2 : w.cell? ⟨B, 2, none⟩ = some (.slice ak nk ck)
  c3 : w.cell? ⟨B, 3, none⟩ = some (.slice ad nd cd)
theorem BookAt.below {w w' : World} {B : Nat} {s wo : Int} {ak : Option Addr} {nk ck : Nat} {ad : Option Addr} {nd cd : Nat} (h : BookAt w B s wo ak nk ck ad nd cd) (hb : Below w.heap.size w w') : BookAt w' B s wo ak nk ck ad nd cd :=
  ⟨below_cell hb h.c0, below_cell hb h.c1, below_cell hb h.c2, below_cell hb h.c3⟩
theorem BookAt.lt {w : World} {B : Nat} {s wo : Int} {ak : Option Addr} {nk ck : Nat} {ad : Option Addr} {nd cd : Nat} (h : BookAt w B s wo ak nk ck ad nd cd) : B < w.heap.size := cell_lt h.c0
theorem BookAt.new (w : World) (s wo : Int) (ak : Option Addr) (nk ck : Nat) (ad : Option Addr) (nd cd : Nat) (T : TypeId) : BookAt (w.alloc (.cells #[.int .i64 s, .int .i64 wo, .slice ak nk ck, .slice ad nd cd] T)) w.heap.size s wo ak nk ck ad nd cd :=
  ⟨cell_new w _ T 0 _ rfl, cell_new w _ T 1 _ rfl, cell_new w _ T 2 _ rfl, cell_new w _ T 3 _ rfl⟩

set_option maxHeartbeats 1000000 in
theorem fine_meets (s wo : Int) (ak : Option Addr) (nk ck : Nat) (ad : Option Addr) (nd cd : Nat) (Bb Bc : Nat) (ac : Option Addr) (nc cc : Nat) (x : Int × Int) (w : World) (hb : BookAt w Bb s wo ak nk ck ad nd cd) (hc : w.cell? ⟨Bc, 0, none⟩ = some (.slice ac nc cc))
    (s0 : 0 ≤ s) (s1 : s ≤ 1000) (hn : nc ≤ 1000) : Meets Try.prog w 55 #[] #[.pointer (some ⟨Bc, 0, none⟩), .pointer (some ⟨Bb, 0, none⟩)] (.agg #[.int .i64 x.1, .int .i64 x.2]) (guessOk s nc x) := by
  intro w1 hw
  obtain ⟨q0, q1, q2, q3⟩ := hb.below hw
  have qc := below_cell hw hc
  have lB := cell_lt q0
  have lC := cell_lt qc
  simp only at lB lC
  clear hb hc hw
  show Calls Try.prog 55 #[.agg #[.int .i64 x.1, .int .i64 x.2], .pointer (some ⟨Bc, 0, none⟩), .pointer (some ⟨Bb, 0, none⟩)] w1 _
  cases h1 : ownOk nc x.1
  all_goals
    unfold guessOk
    rw [h1]
    have H1 := Lib.hid h1
    clear h1
    go_enter Try.func55, Try.ntmps55
    go_wp2_with (first
      | (go_at_call 31; refine (within_any _ _ _ _).mono ?_; rintro e w2 ⟨rfl, rfl⟩; rw [show (decide (0 ≤ x.1) && decide (x.1 ≤ (nc : Int) - 1)) = _ from H1.out])
      | (go_at_call 40; refine (plain_any s wo x.2 _ _ _ s0 s1).mono ?_; rintro e w3 ⟨rfl, hb3⟩; obtain ⟨hc3, hf3, hz3⟩ := bcell hb3))
    go_ret
    exact ⟨by simp [plainOk], by (repeat (first | exact Below.refl _ _ | refine Below.alloc ?_ (by first | omega | (simp; done) | (simp; omega)) _ | refine Below.drew ?_ | refine Below.setCell ?_ (by first | omega | (simp; done) | (simp; omega)) _ | refine Below.trans ?_ (Below.mono (by assumption) (by first | omega | (simp; done) | (simp; omega)))))⟩

def askErr (s wo : Int) (ks : List (Int × Int × Int)) (ds : List Int) (codes : List Int) (gs : List (Int × Int)) : Int :=
  if bookErr s wo ks ds ≠ 0 then bookErr s wo ks ds
  else if 10 < (codes.length : Int) ∨ 6 < (gs.length : Int) then 3
  else if codes.all (plainOk s) = true ∧ gs.all (guessOk s codes.length) = true then 0
  else 2

set_option maxHeartbeats 1000000 in
theorem asked_any (s wo : Int) (ak : Option Addr) (ks : List (Int × Int × Int)) (ck : Nat) (ad : Option Addr) (ds : List Int) (cd : Nat) (ac : Option Addr) (codes : List Int) (cc : Nat) (ag : Option Addr) (gs : List (Int × Int)) (cg : Nat) (w : World) (hk : Recs3At w ak ks) (hd : IntsAt w ad ds) (lk : ks.length ≤ 1000) (ld : ds.length ≤ 1000) (hc : IntsAt w ac codes) (lc : codes.length ≤ 1000) (hg : Recs2At w ag gs) (lg : gs.length ≤ 1000) :
    Calls Try.prog 30 #[.agg #[.int .i64 s, .int .i64 wo, .slice ak ks.length ck, .slice ad ds.length cd], .slice ac codes.length cc, .slice ag gs.length cg] w fun e w' => e = .returned (.int .i64 (askErr s wo ks ds codes gs)) ∧ Below w.heap.size w w' := by
  by_cases hbk : bookErr s wo ks ds = 0
  · have Hbk := Lib.hid hbk
    obtain ⟨_, _, s0, s1, _⟩ := bookErr_ok hbk
    have hB := BookAt.new w s wo ak ks.length ck ad ds.length cd 49
    have hbC : Below (w.alloc (.cells #[.int .i64 s, .int .i64 wo, .slice ak ks.length ck, .slice ad ds.length cd] 49)).heap.size (w.alloc (.cells #[.int .i64 s, .int .i64 wo, .slice ak ks.length ck, .slice ad ds.length cd] 49))
      ((w.alloc (.cells #[.int .i64 s, .int .i64 wo, .slice ak ks.length ck, .slice ad ds.length cd] 49)).alloc (.cells #[.slice ac codes.length cc] 26)) := (Below.refl _ _).alloc (Nat.le_refl _) _
    have hB2 := hB.below hbC
    have hC2 := cell_new (w.alloc (.cells #[.int .i64 s, .int .i64 wo, .slice ak ks.length ck, .slice ad ds.length cd] 49)) #[.slice ac codes.length cc] 26 0 _ rfl
    rw [show (w.alloc (.cells #[.int .i64 s, .int .i64 wo, .slice ak ks.length ck, .slice ad ds.length cd] 49)).heap.size = w.heap.size + 1 by simp] at hC2
    have HB2 := Lib.hid hB2
    have HC2 := Lib.hid hC2
    clear hB hB2 hC2 hbC
    by_cases t1 : 10 < (codes.length : Int)
    · have e1 : askErr s wo ks ds codes gs = 3 := by unfold askErr; rw [if_neg (by simp [hbk]), if_pos (.inl t1)]
      rw [e1]
      clear e1
      go_enter Try.func30, Try.ntmps30
      go_wp2_with (go_at_call 37; refine (checkBook_any s wo ak ks ck ad ds cd _ (hk.below (by (repeat (first | exact Below.refl _ _ | refine Below.alloc ?_ (by first | omega | (simp; done) | (simp; omega)) _ | refine Below.drew ?_ | refine Below.setCell ?_ (by first | omega | (simp; done) | (simp; omega)) _ | refine Below.trans ?_ (Below.mono (by assumption) (by first | omega | (simp; done) | (simp; omega))))))) (hd.below (by (repeat (first | exact Below.refl _ _ | refine Below.alloc ?_ (by first | omega | (simp; done) | (simp; omega)) _ | refine Below.drew ?_ | refine Below.setCell ?_ (by first | omega | (simp; done) | (simp; omega)) _ | refine Below.trans ?_ (Below.mono (by assumption) (by first | omega | (simp; done) | (simp; omega))))))) lk ld).mono ?_; rintro e w1 ⟨rfl, hb1⟩; obtain ⟨hc1, hf1, hz1⟩ := bcell hb1; (try simp at hz1); (try (have hy0 : w.heap.size < w1.heap.size := by omega)); (try (have hy1 : w.heap.size + 1 < w1.heap.size := by omega)); (try (have hy2 : w.heap.size + 2 < w1.heap.size := by omega)))
      go_ret
      exact ⟨rfl, by (repeat (first | exact Below.refl _ _ | refine Below.alloc ?_ (by first | omega | (simp; done) | (simp; omega)) _ | refine Below.drew ?_ | refine Below.setCell ?_ (by first | omega | (simp; done) | (simp; omega)) _ | refine Below.trans ?_ (Below.mono (by assumption) (by first | omega | (simp; done) | (simp; omega)))))⟩
    · by_cases t2 : 6 < (gs.length : Int)
      · have e1 : askErr s wo ks ds codes gs = 3 := by unfold askErr; rw [if_neg (by simp [hbk]), if_pos (.inr t2)]
        rw [e1]
        clear e1
        go_enter Try.func30, Try.ntmps30
        go_wp2_with (go_at_call 37; refine (checkBook_any s wo ak ks ck ad ds cd _ (hk.below (by (repeat (first | exact Below.refl _ _ | refine Below.alloc ?_ (by first | omega | (simp; done) | (simp; omega)) _ | refine Below.drew ?_ | refine Below.setCell ?_ (by first | omega | (simp; done) | (simp; omega)) _ | refine Below.trans ?_ (Below.mono (by assumption) (by first | omega | (simp; done) | (simp; omega))))))) (hd.below (by (repeat (first | exact Below.refl _ _ | refine Below.alloc ?_ (by first | omega | (simp; done) | (simp; omega)) _ | refine Below.drew ?_ | refine Below.setCell ?_ (by first | omega | (simp; done) | (simp; omega)) _ | refine Below.trans ?_ (Below.mono (by assumption) (by first | omega | (simp; done) | (simp; omega))))))) lk ld).mono ?_; rintro e w1 ⟨rfl, hb1⟩; obtain ⟨hc1, hf1, hz1⟩ := bcell hb1; (try simp at hz1); (try (have hy0 : w.heap.size < w1.heap.size := by omega)); (try (have hy1 : w.heap.size + 1 < w1.heap.size := by omega)); (try (have hy2 : w.heap.size + 2 < w1.heap.size := by omega)))
        go_ret
        exact ⟨rfl, by (repeat (first | exact Below.refl _ _ | refine Below.alloc ?_ (by first | omega | (simp; done) | (simp; omega)) _ | refine Below.drew ?_ | refine Below.setCell ?_ (by first | omega | (simp; done) | (simp; omega)) _ | refine Below.trans ?_ (Below.mono (by assumption) (by first | omega | (simp; done) | (simp; omega)))))⟩
      · cases hca : codes.all (plainOk s)
        · have e1 : askErr s wo ks ds codes gs = 2 := by unfold askErr; rw [if_neg (by simp [hbk]), if_neg (by omega), if_neg (by simp [hca])]
          rw [e1]
          have Hca := Lib.hid hca
          clear e1 hca
          go_enter Try.func30, Try.ntmps30
          go_wp2_with (first
            | (go_at_call 37; refine (checkBook_any s wo ak ks ck ad ds cd _ (hk.below (by (repeat (first | exact Below.refl _ _ | refine Below.alloc ?_ (by first | omega | (simp; done) | (simp; omega)) _ | refine Below.drew ?_ | refine Below.setCell ?_ (by first | omega | (simp; done) | (simp; omega)) _ | refine Below.trans ?_ (Below.mono (by assumption) (by first | omega | (simp; done) | (simp; omega))))))) (hd.below (by (repeat (first | exact Below.refl _ _ | refine Below.alloc ?_ (by first | omega | (simp; done) | (simp; omega)) _ | refine Below.drew ?_ | refine Below.setCell ?_ (by first | omega | (simp; done) | (simp; omega)) _ | refine Below.trans ?_ (Below.mono (by assumption) (by first | omega | (simp; done) | (simp; omega))))))) lk ld).mono ?_; rintro e w1 ⟨rfl, hb1⟩; obtain ⟨hc1, hf1, hz1⟩ := bcell hb1; (try simp at hz1); (try (have hy0 : w.heap.size < w1.heap.size := by omega)); (try (have hy1 : w.heap.size + 1 < w1.heap.size := by omega)); (try (have hy2 : w.heap.size + 2 < w1.heap.size := by omega)))
            | (go_at_call 39; refine (all_int ac codes cc 40 #[.agg #[.int .i64 s, .int .i64 wo, .slice ak ks.length ck, .slice ad ds.length cd]] #[] (plainOk s) _ (by omega) (hc.below (by (repeat (first | exact Below.refl _ _ | refine Below.alloc ?_ (by first | omega | (simp; done) | (simp; omega)) _ | refine Below.drew ?_ | refine Below.setCell ?_ (by first | omega | (simp; done) | (simp; omega)) _ | refine Below.trans ?_ (Below.mono (by assumption) (by first | omega | (simp; done) | (simp; omega))))))) (enters Try.func40 (by kernel_rfl) rfl) (fun x _ => plain_meets s wo ak ks ck ad ds cd x _ (by omega) (by omega))).mono ?_; rw [Hca.out]; rintro e w2 ⟨rfl, hb2⟩; obtain ⟨hc2, hf2, hz2⟩ := bcell hb2))
          go_ret
          exact ⟨rfl, by (repeat (first | exact Below.refl _ _ | refine Below.alloc ?_ (by first | omega | (simp; done) | (simp; omega)) _ | refine Below.drew ?_ | refine Below.setCell ?_ (by first | omega | (simp; done) | (simp; omega)) _ | refine Below.trans ?_ (Below.mono (by assumption) (by first | omega | (simp; done) | (simp; omega)))))⟩
        · have Hca := Lib.hid hca
          clear hca
          cases hga : gs.all (guessOk s codes.length)
          all_goals
            have e1 : askErr s wo ks ds codes gs = if gs.all (guessOk s codes.length) then 0 else 2 := by unfold askErr; rw [if_neg (by simp [hbk]), if_neg (by omega)]; simp [Hca.out, hga]
            rw [e1, hga]
            have Hga := Lib.hid hga
            clear e1 hga
            go_enter Try.func30, Try.ntmps30
            go_wp2_with (first
              | (go_at_call 37; refine (checkBook_any s wo ak ks ck ad ds cd _ (hk.below (by (repeat (first | exact Below.refl _ _ | refine Below.alloc ?_ (by first | omega | (simp; done) | (simp; omega)) _ | refine Below.drew ?_ | refine Below.setCell ?_ (by first | omega | (simp; done) | (simp; omega)) _ | refine Below.trans ?_ (Below.mono (by assumption) (by first | omega | (simp; done) | (simp; omega))))))) (hd.below (by (repeat (first | exact Below.refl _ _ | refine Below.alloc ?_ (by first | omega | (simp; done) | (simp; omega)) _ | refine Below.drew ?_ | refine Below.setCell ?_ (by first | omega | (simp; done) | (simp; omega)) _ | refine Below.trans ?_ (Below.mono (by assumption) (by first | omega | (simp; done) | (simp; omega))))))) lk ld).mono ?_; rintro e w1 ⟨rfl, hb1⟩; obtain ⟨hc1, hf1, hz1⟩ := bcell hb1; (try simp at hz1); (try (have hy0 : w.heap.size < w1.heap.size := by omega)); (try (have hy1 : w.heap.size + 1 < w1.heap.size := by omega)); (try (have hy2 : w.heap.size + 2 < w1.heap.size := by omega)))
              | (go_at_call 39; refine (all_int ac codes cc 40 #[.agg #[.int .i64 s, .int .i64 wo, .slice ak ks.length ck, .slice ad ds.length cd]] #[] (plainOk s) _ (by omega) (hc.below (by (repeat (first | exact Below.refl _ _ | refine Below.alloc ?_ (by first | omega | (simp; done) | (simp; omega)) _ | refine Below.drew ?_ | refine Below.setCell ?_ (by first | omega | (simp; done) | (simp; omega)) _ | refine Below.trans ?_ (Below.mono (by assumption) (by first | omega | (simp; done) | (simp; omega))))))) (enters Try.func40 (by kernel_rfl) rfl) (fun x _ => plain_meets s wo ak ks ck ad ds cd x _ (by omega) (by omega))).mono ?_; rw [Hca.out]; rintro e w2 ⟨rfl, hb2⟩; obtain ⟨hc2, hf2, hz2⟩ := bcell hb2)
              | (go_at_call 56; refine (all_guess ag gs cg 55 #[] #[.pointer (some ⟨w.heap.size + 1, 0, none⟩), .pointer (some ⟨w.heap.size, 0, none⟩)] (guessOk s codes.length) _ (by omega) (hg.below (by (repeat (first | exact Below.refl _ _ | refine Below.alloc ?_ (by first | omega | (simp; done) | (simp; omega)) _ | refine Below.drew ?_ | refine Below.setCell ?_ (by first | omega | (simp; done) | (simp; omega)) _ | refine Below.trans ?_ (Below.mono (by assumption) (by first | omega | (simp; done) | (simp; omega))))))) (enters Try.func55 (by kernel_rfl) rfl) (fun x _ => fine_meets s wo ak ks.length ck ad ds.length cd w.heap.size (w.heap.size + 1) ac codes.length cc x _ ((HB2.out.below hb1).below hb2) (below_cell hb2 (below_cell hb1 HC2.out)) (by omega) (by omega) (by omega))).mono ?_; rw [Hga.out]; rintro e w3 ⟨rfl, hb3⟩; obtain ⟨hc3, hf3, hz3⟩ := bcell hb3))
            go_ret
            exact ⟨rfl, by (repeat (first | exact Below.refl _ _ | refine Below.alloc ?_ (by first | omega | (simp; done) | (simp; omega)) _ | refine Below.drew ?_ | refine Below.setCell ?_ (by first | omega | (simp; done) | (simp; omega)) _ | refine Below.trans ?_ (Below.mono (by assumption) (by first | omega | (simp; done) | (simp; omega)))))⟩
  · have e1 : askErr s wo ks ds codes gs = bookErr s wo ks ds := by unfold askErr; rw [if_pos hbk]
    rw [e1]
    have hne : (bookErr s wo ks ds != 0) = true := by simpa using hbk
    clear hbk e1
    go_enter Try.func30, Try.ntmps30
    go_wp2_with (go_at_call 37; refine (checkBook_any s wo ak ks ck ad ds cd _ (hk.below (by (repeat (first | exact Below.refl _ _ | refine Below.alloc ?_ (by first | omega | (simp; done) | (simp; omega)) _ | refine Below.drew ?_ | refine Below.setCell ?_ (by first | omega | (simp; done) | (simp; omega)) _ | refine Below.trans ?_ (Below.mono (by assumption) (by first | omega | (simp; done) | (simp; omega))))))) (hd.below (by (repeat (first | exact Below.refl _ _ | refine Below.alloc ?_ (by first | omega | (simp; done) | (simp; omega)) _ | refine Below.drew ?_ | refine Below.setCell ?_ (by first | omega | (simp; done) | (simp; omega)) _ | refine Below.trans ?_ (Below.mono (by assumption) (by first | omega | (simp; done) | (simp; omega))))))) lk ld).mono ?_; rintro e w1 ⟨rfl, hb1⟩; obtain ⟨hc1, hf1, hz1⟩ := bcell hb1; (try simp at hz1); (try (have hy0 : w.heap.size < w1.heap.size := by omega)); (try (have hy1 : w.heap.size + 1 < w1.heap.size := by omega)); (try (have hy2 : w.heap.size + 2 < w1.heap.size := by omega)))
    go_ret
    exact ⟨rfl, by (repeat (first | exact Below.refl _ _ | refine Below.alloc ?_ (by first | omega | (simp; done) | (simp; omega)) _ | refine Below.drew ?_ | refine Below.setCell ?_ (by first | omega | (simp; done) | (simp; omega)) _ | refine Below.trans ?_ (Below.mono (by assumption) (by first | omega | (simp; done) | (simp; omega)))))⟩
end Go.Proofs.Ytnofcpihkglmmaa

namespace Go.Proofs.Ytnofcpihkglmmaa
set_option linter.unusedVariables false
set_option linter.unusedSimpArgs false
set_option linter.unnecessarySimpa false
open Go.RowKit Go.Flow

structure KeyAt (w : World) (B : Nat) (m a st : Int) : Prop where
  c0 : w.cell? ⟨B, 0, none⟩ = some (.int .i64 m)
  c1 : w.cell? ⟨B, 1, none⟩ = some (.int .i64 a)
  c2 : w.cell? ⟨B, 2, none⟩ = some (.int .i64 st)
theorem KeyAt.below {w w' : World} {B : Nat} {m a st : Int} (h : KeyAt w B m a st) (hb : Below w.heap.size w w') : KeyAt w' B m a st := ⟨below_cell hb h.c0, below_cell hb h.c1, below_cell hb h.c2⟩
theorem KeyAt.new (w : World) (m a st : Int) (T : TypeId) : KeyAt (w.alloc (.cells #[.int .i64 m, .int .i64 a, .int .i64 st] T)) w.heap.size m a st :=
  ⟨cell_new w _ T 0 _ rfl, cell_new w _ T 1 _ rfl, cell_new w _ T 2 _ rfl⟩

def agreeOk (s m a st : Int) (codes : List Int) (x : Int × Int) : Bool := codeN s m a st x.2 x.1 == codes.getD x.1.toNat 0

set_option maxHeartbeats 1000000 in
theorem agrees_meets (s wo : Int) (ak : Option Addr) (nk ck : Nat) (ad : Option Addr) (nd cd : Nat) (Bb Bk Bc : Nat) (m a st : Int) (ac : Option Addr) (codes : List Int) (cc : Nat) (x : Int × Int) (w : World) (hb : BookAt w Bb s wo ak nk ck ad nd cd) (hk : KeyAt w Bk m a st)
    (hc : w.cell? ⟨Bc, 0, none⟩ = some (.slice ac codes.length cc)) (hi : IntsAt w ac codes) (s0 : 0 < s) (s1 : s ≤ 1000) (lc : codes.length ≤ 1000) (m0 : 0 ≤ m) (m1 : m ≤ 1000) (a0 : 0 ≤ a) (a1 : a ≤ 1000) (st0 : 0 ≤ st) (st1 : st ≤ 1000) (hx : guessOk s codes.length x = true) :
    Meets Try.prog w 59 #[] #[.pointer (some ⟨Bb, 0, none⟩), .pointer (some ⟨Bk, 0, none⟩), .pointer (some ⟨Bc, 0, none⟩)] (.agg #[.int .i64 x.1, .int .i64 x.2]) (agreeOk s m a st codes x) := by
  intro w1 hw
  obtain ⟨i, p⟩ := x
  simp [guessOk, ownOk, plainOk] at hx
  obtain ⟨⟨i0, i1⟩, p0, p1⟩ := hx
  obtain ⟨j, rfl⟩ := Int.eq_ofNat_of_zero_le i0
  have hj : j < codes.length := by omega
  obtain ⟨q0, q1, q2, q3⟩ := hb.below hw
  obtain ⟨k0, k1, k2⟩ := hk.below hw
  have qc := below_cell hw hc
  have lB := cell_lt q0
  have lK := cell_lt k0
  have lC := cell_lt qc
  obtain ⟨b, off, rfl, hbl, hcell⟩ := (hi.below hw) j hj
  simp only at lB lC lK
  have hjI : (j : Int) < (codes.length : Int) := by omega
  clear hb hc hw hi hk
  show Calls Try.prog 59 #[.agg #[.int .i64 j, .int .i64 p], .pointer (some ⟨Bb, 0, none⟩), .pointer (some ⟨Bk, 0, none⟩), .pointer (some ⟨Bc, 0, none⟩)] w1 _
  go_enter Try.func59, Try.ntmps59
  go_wp2
  (refine wp_region_ext 13 (by kernel_rfl) (by kernel_rfl) ?_; simp only [List.take_succ_cons, List.take_zero, List.drop_succ_cons, List.drop_zero]; (repeat (go_big_quiet_step (((go_at_call 43; refine Calls_ext (code_any s wo m a st p j _ _ _ (by omega) (by omega) (by omega) (by omega) (by omega) (by omega) (by omega) (by omega) (by omega) (by omega) (by omega) (by omega))))))); refine wpQuiet_nil ?_; rintro _ ⟨ex, rfl⟩; have hex := ex.below; have hexz := ex.size; (try simp at hexz); (try (have hy0 : w.heap.size < ex.to.heap.size := by omega)); (try (have hy1 : w.heap.size + 1 < ex.to.heap.size := by omega)); (try (have hy2 : w.heap.size + 2 < ex.to.heap.size := by omega)))
  go_wp2
  go_ret
  exact ⟨by simp [agreeOk, hj], by (repeat (first | exact Below.refl _ _ | refine Below.alloc ?_ (by first | omega | (simp; done) | (simp; omega)) _ | refine Below.drew ?_ | refine Below.setCell ?_ (by first | omega | (simp; done) | (simp; omega)) _ | refine Below.trans ?_ (Below.mono (by assumption) (by first | omega | (simp; done) | (simp; omega)))))⟩

/-- What Add can be. -/
def addsN (s m st : Int) (codes : List Int) (gs : List (Int × Int)) : List Int :=
  match gs with
  | [] => (List.range s.toNat).map Int.ofNat
  | g :: _ => [(codes.getD g.1.toNat 0 + s - codeN s m 0 st g.2 g.1) % s]

set_option maxHeartbeats 1000000 in
theorem adds_any (s wo : Int) (ak : Option Addr) (ks : List (Int × Int × Int)) (ck : Nat) (ad : Option Addr) (ds : List Int) (cd : Nat) (m st : Int) (ac : Option Addr) (codes : List Int) (cc : Nat) (ag : Option Addr) (gs : List (Int × Int)) (cg : Nat) (w : World) (s0 : 0 < s) (s1 : s ≤ 1000) (lc : codes.length ≤ 1000) (lg : gs.length ≤ 1000) (m0 : 0 ≤ m) (m1 : m ≤ 1000) (st0 : 0 ≤ st) (st1 : st ≤ 1000)
    (hc : IntsAt w ac codes) (hg : Recs2At w ag gs) (hco : codes.all (plainOk s) = true) (hgo : gs.all (guessOk s codes.length) = true) :
    Calls Try.prog 58 #[.agg #[.int .i64 s, .int .i64 wo, .slice ak ks.length ck, .slice ad ds.length cd], .agg #[.int .i64 m, .int .i64 0, .int .i64 st], .slice ac codes.length cc, .slice ag gs.length cg] w fun e w' =>
      ∃ a c, e = .returned (.slice a (addsN s m st codes gs).length c) ∧ OwnL 3 1 w.heap.size w' a c (addsN s m st codes gs).length ((addsN s m st codes gs).map (Value.int .i64)) ∧ Below w.heap.size w w' := by
  have hne : (s == 0) = false := by simp; omega
  cases gs with
  | nil =>
    obtain ⟨S, rfl⟩ := Int.eq_ofNat_of_zero_le (Int.le_of_lt s0)
    have hres : addsN S m st codes [] = upTo (fun i => (i : Int)) S := by simp [addsN, upTo]
    rw [hres, upTo_len]
    clear hres
    simp only [List.length_nil]
    go_enter Try.func58, Try.ntmps58
    go_wp2
    obtain ⟨wS, hwS⟩ : ∃ x : World, x = (w.alloc (.cells #[.int .i64 S, .int .i64 wo, .slice ak ks.length ck, .slice ad ds.length cd] 49)).alloc (.cells #[.int .i64 m, .int .i64 0, .int .i64 st] 57) := ⟨_, rfl⟩
    have hbS : Below w.heap.size w wS := by rw [hwS]; (repeat (first | exact Below.refl _ _ | refine Below.alloc ?_ (by first | omega | (simp; done) | (simp; omega)) _ | refine Below.drew ?_ | refine Below.setCell ?_ (by first | omega | (simp; done) | (simp; omega)) _ | refine Below.trans ?_ (Below.mono (by assumption) (by first | omega | (simp; done) | (simp; omega)))))
    rw [← hwS]
    go_loopw [8, 10, 39] (fun v _ i wr => ∃ (k : Nat) (a' : Option Addr) (c' : Nat), k ≤ S ∧ i = .int .i64 k ∧ v = .slice a' k c' ∧ OwnL 3 1 w.heap.size wr a' c' k ((upTo (fun i => (i : Int)) k).map (Value.int .i64)) ∧ Below w.heap.size w wr)
      (fun _ _ i _ => S - (intOf i).toNat)
    case atStart => exact ⟨0, none, 0, Nat.zero_le _, rfl, rfl, OwnL.nil _ _ _ _, hbS⟩
    case round =>
      obtain ⟨k, a', c', hk', rfl, rfl, hown, hbel⟩ := hrel
      have hzz : w.heap.size ≤ wr.heap.size := hbel.size
      by_cases hlt : k < S
      · go_wp2_with (at_builtin; refine wpList_app_lit elInt rfl _ _ rfl _ _ _ _ _ rfl hown 1 1 rfl rfl (fun u hu => ?c1) ?c2 ?c3 ?c4 ?_)
        case c1 => simp at hu; subst hu; rfl
        case c2 => unfold maxLen; omega
        case c3 => omega
        case c4 => omega
        intro a2 c2 w2 hown2 hb2
        go_wp2
        go_roundw
        case rel => exact ⟨k + 1, a2, c2, by omega, by go_num, rfl, by rw [upTo_succ, List.map_append]; exact hown2, hbel.trans hb2⟩
        case measure => simp [intOf]; omega
      · obtain rfl : k = S := by omega
        go_wp2
        go_ret
        exact ⟨a', c', rfl, hown, hbel⟩
  | cons g gs =>
    obtain ⟨i, p⟩ := g
    simp [guessOk, ownOk, plainOk] at hgo
    obtain ⟨⟨⟨i0, i1⟩, p0, p1⟩, _⟩ := hgo
    obtain ⟨j, rfl⟩ := Int.eq_ofNat_of_zero_le i0
    have hj : j < codes.length := by omega
    obtain ⟨b2, off2, rfl, hbl2, hg0, hg1⟩ := hg 0 (by simp)
    obtain ⟨b, off, rfl, hbl, hcell⟩ := hc j hj
    have hcj := List.all_eq_true.1 hco codes[j] (List.getElem_mem hj)
    simp [plainOk] at hcj
    simp at hg0 hg1
    have hjI : (j : Int) < (codes.length : Int) := by omega
    have hcb := codeN_b (s := s) (m := m) (a := 0) (st := st) (n := p) (i := j) s0
    have hres : addsN s m st codes ((↑j, p) :: gs) = [(codes[j] + s - codeN s m 0 st p j) % s] := by simp [addsN, hj]
    rw [hres]
    have hcell' : w.cell? ⟨b, off + j, none⟩ = some (.int .i64 codes[j]) := by rw [hcell]; simp [hj]
    have x1 : IntKind.i64.wrap (codes[j] + s) = codes[j] + s := IntWalk.i64_in _ (by omega)
    have x2 : IntKind.i64.wrap (codes[j] + s - codeN s m 0 st p j) = codes[j] + s - codeN s m 0 st p j := IntWalk.i64_in _ (by omega)
    clear hres hcell hc hg hco
    have hgl : (0 : Int) < ((((j : Int), p) :: gs).length : Int) := by simp
    have hgl2 : 0 < (((j : Int), p) :: gs).length := by simp
    obtain ⟨ng, hng⟩ : ∃ ng, (((j : Int), p) :: gs).length = ng := ⟨_, rfl⟩
    rw [hng] at hgl hgl2 ⊢
    clear hng
    go_enter Try.func58, Try.ntmps58
    go_wp2
    have z1 : b < w.heap.size + 1 + 1 + 1 := by omega
    have z2 : b < w.heap.size + 1 + 1 := by omega
    have z3 : b < w.heap.size + 1 := by omega
    (refine wp_region_ext 19 (by kernel_rfl) (by kernel_rfl) ?_; simp only [List.take_succ_cons, List.take_zero, List.drop_succ_cons, List.drop_zero]; (repeat (go_big_quiet_step (((go_at_call 43; refine Calls_ext (code_any s wo m 0 st p j _ _ _ (by omega) (by omega) (by omega) (by omega) (by omega) (by omega) (by omega) (by omega) (by omega) (by omega) (by omega) (by omega))))))); refine wpQuiet_nil ?_; rintro _ ⟨ex, rfl⟩; have hex := ex.below; have hexz := ex.size; (try simp at hexz); (try (have hy0 : w.heap.size < ex.to.heap.size := by omega)); (try (have hy1 : w.heap.size + 1 < ex.to.heap.size := by omega)); (try (have hy2 : w.heap.size + 2 < ex.to.heap.size := by omega)))
    go_wp2
    go_ret
    have hwe : Below w.heap.size w ex.to := Below.trans (by (repeat (first | exact Below.refl _ _ | refine Below.alloc ?_ (by first | omega | (simp; done) | (simp; omega)) _ | refine Below.drew ?_ | refine Below.setCell ?_ (by first | omega | (simp; done) | (simp; omega)) _ | refine Below.trans ?_ (Below.mono (by assumption) (by first | omega | (simp; done) | (simp; omega)))))) (ex.below.mono (by simp; omega))
    exact ⟨_, _, rfl, OwnL.lit #[_] hwe.size (by decide) rfl, hwe.alloc hwe.size _⟩
end Go.Proofs.Ytnofcpihkglmmaa

namespace Go.Proofs.Ytnofcpihkglmmaa
set_option linter.unusedVariables false
set_option linter.unusedSimpArgs false
set_option linter.unnecessarySimpa false
open Go.RowKit Go.Flow Go.Shelf
attribute [local go_sem] Oper.semAt_some

abbrev K3 := Int × Int × Int
def innN (s m st : Int) (codes : List Int) (gs : List (Int × Int)) (adds : List Int) : List K3 := (adds.filter fun a => gs.all (agreeOk s m a st codes)).map fun a => (m, a, st)
def midN (s m : Int) (codes : List Int) (gs : List (Int × Int)) (n : Nat) : List K3 := (List.range n).flatMap fun (st : Nat) => innN s m st codes gs (addsN s m st codes gs)
def outN (s : Int) (codes : List Int) (gs : List (Int × Int)) (n : Nat) : List K3 := (List.range n).flatMap fun (i : Nat) => midN s ((i : Int) + 1) codes gs s.toNat
def keysN (s : Int) (codes : List Int) (gs : List (Int × Int)) : List K3 := outN s codes gs (s - 1).toNat

theorem midN_succ (s m : Int) (codes : List Int) (gs : List (Int × Int)) (n : Nat) : midN s m codes gs (n + 1) = midN s m codes gs n ++ innN s m n codes gs (addsN s m n codes gs) := by
  simp [midN, List.range_succ]
theorem outN_succ (s : Int) (codes : List Int) (gs : List (Int × Int)) (n : Nat) : outN s codes gs (n + 1) = outN s codes gs n ++ midN s ((n : Int) + 1) codes gs s.toNat := by
  simp [outN, List.range_succ]
theorem addsN_len (s m st : Int) (codes : List Int) (gs : List (Int × Int)) (h0 : 0 < s) (h1 : s ≤ 41) : (addsN s m st codes gs).length ≤ 41 := by
  unfold addsN
  split
  · simp; omega
  · simp
theorem addsN_mem (s m st : Int) (codes : List Int) (gs : List (Int × Int)) (h0 : 0 < s) : ∀ x ∈ addsN s m st codes gs, 0 ≤ x ∧ x < s := by
  intro x hx
  unfold addsN at hx
  split at hx
  · simp at hx; omega
  · simp at hx; subst hx; exact ⟨Int.emod_nonneg _ (by omega), Int.emod_lt_of_pos _ h0⟩
theorem innN_len (s m st : Int) (codes : List Int) (gs : List (Int × Int)) (l : List Int) : (innN s m st codes gs l).length ≤ l.length := by
  unfold innN
  rw [List.length_map]
  exact List.length_filter_le _ _
theorem midN_len (s m : Int) (codes : List Int) (gs : List (Int × Int)) (h0 : 0 < s) (h1 : s ≤ 41) : ∀ n : Nat, (midN s m codes gs n).length ≤ 41 * n
  | 0 => by simp [midN]
  | n + 1 => by
    rw [midN_succ, List.length_append]
    have := midN_len s m codes gs h0 h1 n
    have h2 := innN_len s m n codes gs (addsN s m n codes gs)
    have h3 := addsN_len s m n codes gs h0 h1
    omega
theorem outN_len (s : Int) (codes : List Int) (gs : List (Int × Int)) (h0 : 0 < s) (h1 : s ≤ 41) : ∀ n : Nat, (outN s codes gs n).length ≤ 1681 * n
  | 0 => by simp [outN]
  | n + 1 => by
    rw [outN_succ, List.length_append]
    have := outN_len s codes gs h0 h1 n
    have h2 := midN_len s ((n : Int) + 1) codes gs h0 h1 s.toNat
    omega
theorem innN_take (s m st : Int) (codes : List Int) (gs : List (Int × Int)) (l : List Int) (k : Nat) (hk : k < l.length) :
    innN s m st codes gs (l.take (k + 1)) = innN s m st codes gs (l.take k) ++ if gs.all (agreeOk s m l[k] st codes) then [(m, l[k], st)] else [] := by
  unfold innN
  rw [List.take_succ_eq_append_getElem hk, List.filter_append, List.map_append]
  congr 1
  by_cases h : gs.all (agreeOk s m l[k] st codes) = true
  · rw [if_pos h]; simp only [List.filter_cons, h, if_true, List.filter_nil, List.map_cons, List.map_nil]
  · rw [if_neg h]; simp only [List.filter_cons, h, if_false, List.filter_nil, List.map_nil]; rfl

/-- All cells but those of block bm hold what they held. -/
structure CK (bm : Nat) (W W' : World) : Prop where
  size : W.heap.size ≤ W'.heap.size
  cell : ∀ (a : Addr) (v : Value), a.block ≠ bm → W.cell? a = some v → W'.cell? a = some v
theorem CK.refl (bm : Nat) (W : World) : CK bm W W := ⟨Nat.le_refl _, fun _ _ _ h => h⟩
theorem CK.trans {bm : Nat} {A B C : World} (h : CK bm A B) (k : CK bm B C) : CK bm A C := ⟨Nat.le_trans h.size k.size, fun a v hn hc => k.cell a v hn (h.cell a v hn hc)⟩
theorem CK.below {bm : Nat} {W W' : World} (hb : Below W.heap.size W W') : CK bm W W' := ⟨hb.size, fun _ _ _ h => below_cell hb h⟩
theorem CK.putObj {bm : Nat} (W : World) (l : Nat) (o o' : Obj) (h : W.heap[l]? = some o) (ho : o.isCells = false) : CK bm W (W.putObj l o') :=
  ⟨(grownBy_putObj' W l o').size, fun a v _ hc => cell_kept hc (grownBy_putObj' W l o') (fun r e => by cases e; exact ⟨o, h, ho⟩)⟩

/-- ints, pairs: in other blocks than bm -/
def IntsN (bm : Nat) (w : World) (a : Option Addr) (xs : List Int) : Prop := ∀ k, k < xs.length → ∃ b off, a = some ⟨b, off, none⟩ ∧ b ≠ bm ∧ b < w.heap.size ∧ w.cell? ⟨b, off + k, none⟩ = some (.int .i64 (xs.getD k 0))
def RecsN (bm : Nat) (w : World) (a : Option Addr) (xs : List (Int × Int)) : Prop := ∀ k (h : k < xs.length), ∃ b off, a = some ⟨b, off, none⟩ ∧ b ≠ bm ∧ b < w.heap.size ∧ w.cell? ⟨b, off + k * 2, none⟩ = some (.int .i64 xs[k].1) ∧ w.cell? ⟨b, off + k * 2 + 1, none⟩ = some (.int .i64 xs[k].2)
theorem IntsN.ck {bm : Nat} {w w' : World} {a : Option Addr} {xs : List Int} (h : IntsN bm w a xs) (k : CK bm w w') : IntsN bm w' a xs := fun i hi =>
  let ⟨b, off, ha, hn, hlt, hc⟩ := h i hi
  ⟨b, off, ha, hn, Nat.lt_of_lt_of_le hlt k.size, k.cell _ _ hn hc⟩
theorem RecsN.ck {bm : Nat} {w w' : World} {a : Option Addr} {xs : List (Int × Int)} (h : RecsN bm w a xs) (k : CK bm w w') : RecsN bm w' a xs := fun i hi =>
  let ⟨b, off, ha, hn, hlt, hc, hd⟩ := h i hi
  ⟨b, off, ha, hn, Nat.lt_of_lt_of_le hlt k.size, k.cell _ _ hn hc, k.cell _ _ hn hd⟩
theorem IntsN.to {bm : Nat} {w : World} {a : Option Addr} {xs : List Int} (h : IntsN bm w a xs) : IntsAt w a xs := fun i hi =>
  let ⟨b, off, ha, _, hlt, hc⟩ := h i hi
  ⟨b, off, ha, hlt, hc⟩
theorem RecsN.to {bm : Nat} {w : World} {a : Option Addr} {xs : List (Int × Int)} (h : RecsN bm w a xs) : Recs2At w a xs := fun i hi =>
  let ⟨b, off, ha, _, hlt, hc, hd⟩ := h i hi
  ⟨b, off, ha, hlt, hc, hd⟩
theorem OwnL.intsN {base bm : Nat} {w : World} {a : Option Addr} {c n : Nat} {zs : List Int} (h : OwnL 3 1 base w a c n (zs.map (Value.int .i64))) (hb : bm < base) : IntsN bm w a zs := fun k hk => by
  rcases h.form with ⟨_, _, _, h4⟩ | ⟨g, rfl, hg, hlt, _, _, _, hc⟩
  · simp at h4; subst h4; simp at hk
  · exact ⟨g, 0, rfl, by omega, hlt, by rw [Nat.zero_add]; exact hc k _ (by simp [hk])⟩
theorem IntsAt.toN {bm : Nat} {w0 w : World} {a : Option Addr} {xs : List Int} (h : IntsAt w0 a xs) (hb : Below w0.heap.size w0 w) (hm : w0.heap.size ≤ bm) : IntsN bm w a xs := fun k hk =>
  let ⟨b, off, ha, hlt, hc⟩ := h k hk
  ⟨b, off, ha, by omega, Nat.lt_of_lt_of_le hlt hb.size, below_cell hb hc⟩
theorem Recs2At.toN {bm : Nat} {w0 w : World} {a : Option Addr} {xs : List (Int × Int)} (h : Recs2At w0 a xs) (hb : Below w0.heap.size w0 w) (hm : w0.heap.size ≤ bm) : RecsN bm w a xs := fun k hk =>
  let ⟨b, off, ha, hlt, hc, hd⟩ := h k hk
  ⟨b, off, ha, by omega, Nat.lt_of_lt_of_le hlt hb.size, below_cell hb hc, below_cell hb hd⟩
theorem BookAt.ck {bm : Nat} {w w' : World} {B : Nat} {s wo : Int} {ak : Option Addr} {nk ck : Nat} {ad : Option Addr} {nd cd : Nat} (h : BookAt w B s wo ak nk ck ad nd cd) (k : CK bm w w') (hn : B ≠ bm) : BookAt w' B s wo ak nk ck ad nd cd :=
  ⟨k.cell _ _ hn h.c0, k.cell _ _ hn h.c1, k.cell _ _ hn h.c2, k.cell _ _ hn h.c3⟩

def encK (x : K3) : Array Value := #[.agg #[.int .i64 x.1, .int .i64 x.2.1, .int .i64 x.2.2]]

end Go.Proofs.Ytnofcpihkglmmaa

namespace Go.Proofs.Ytnofcpihkglmmaa
set_option linter.unusedVariables false
set_option linter.unusedSimpArgs false
set_option linter.unnecessarySimpa false
open Go.RowKit Go.Flow Go.Shelf
attribute [local go_sem] Oper.semAt_some

theorem askErr_ok {s wo : Int} {ks : List K3} {ds : List Int} {codes : List Int} {gs : List (Int × Int)} (h : askErr s wo ks ds codes gs = 0) :
    bookErr s wo ks ds = 0 ∧ codes.length ≤ 10 ∧ gs.length ≤ 6 ∧ codes.all (plainOk s) = true ∧ gs.all (guessOk s codes.length) = true := by
  unfold askErr at h
  split at h
  · omega
  · rename_i h1
    split at h
    · omega
    · rename_i h2
      split at h
      · rename_i h3
        exact ⟨by omega, by omega, by omega, h3.1, h3.2⟩
      · omega

theorem CK.setCell (bm : Nat) (W : World) (v : Value) : CK bm W (W.setCell ⟨bm, 0, none⟩ v) :=
  ⟨(grownBy_setCell' W bm v).size, fun a u hn hc => by rw [World.cell?_setCell_other _ _ _ _ (fun e => hn (by rw [← e]))]; exact hc⟩

set_option maxHeartbeats 1000000 in
theorem keys_any (s wo : Int) (ak : Option Addr) (ks : List (Int × Int × Int)) (ck : Nat) (ad : Option Addr) (ds : List Int) (cd : Nat) (ac : Option Addr) (nc cc : Nat) (ag : Option Addr) (ng cg : Nat) (w : World) :
    Calls Try.prog 32 #[.agg #[.int .i64 s, .int .i64 wo, .slice ak ks.length ck, .slice ad ds.length cd], .slice ac nc cc, .slice ag ng cg] w fun e w' =>
      e = .returned (.func (.func 57) #[] #[.pointer (some ⟨w.heap.size, 0, none⟩), .pointer (some ⟨w.heap.size + 1, 0, none⟩), .pointer (some ⟨w.heap.size + 1 + 1, 0, none⟩)]) ∧
      w' = ((w.alloc (.cells #[.int .i64 s, .int .i64 wo, .slice ak ks.length ck, .slice ad ds.length cd] 49)).alloc (.cells #[.slice ac nc cc] 26)).alloc (.cells #[.slice ag ng cg] 51) := by
  go_enter Try.func32, Try.ntmps32
  go_wp2
  go_ret
  exact ⟨rfl, rfl⟩

end Go.Proofs.Ytnofcpihkglmmaa
