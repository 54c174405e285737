/- cipher: Fits -/
import Derived.Test.YtmplgcefhpobgaaCv
namespace Go.Proofs.Ytmplgcefhpobgaa
set_option linter.unusedVariables false
set_option linter.unusedSimpArgs false
set_option linter.unnecessarySimpa false
open Go.RowKit Go.Flow Go.Shelf
attribute [local go_sem] Oper.semAt_some

def fitsErr (s wo : Int) (ks : List K3) (ds : List Int) (codes : List Int) (gs : List (Int × Int)) : Int :=
  if askErr s wo ks ds codes gs ≠ 0 then askErr s wo ks ds codes gs else if (keysN s codes gs).length = 0 then 11 else 0
def fitsN (s wo : Int) (ks : List K3) (ds : List Int) (codes : List Int) (gs : List (Int × Int)) : Int :=
  if askErr s wo ks ds codes gs = 0 then (keysN s codes gs).length else 0

theorem askErr_ok {s wo : Int} {ks : List K3} {ds : List Int} {codes : List Int} {gs : List (Int × Int)} (h : askErr s wo ks ds codes gs = 0) :
    bookErr s wo ks ds = 0 ∧ codes.length ≤ 10 ∧ gs.length ≤ 6 ∧ codes.all (plainOk s) = true ∧ gs.all (guessOk s codes.length) = true := by
  unfold askErr at h
  split at h
  · omega
  · rename_i h1
    split at h
    · omega
    · rename_i h2
      split at h
      · rename_i h3
        exact ⟨by omega, by omega, by omega, h3.1, h3.2⟩
      · omega

theorem keysN_len (s : Int) (codes : List Int) (gs : List (Int × Int)) (h0 : 2 ≤ s) (h1 : s ≤ 41) : (keysN s codes gs).length ≤ 1000000 := by
  have := outN_len s codes gs (by omega) h1 (s - 1).toNat
  unfold keysN
  omega

theorem CK.setCell (bm : Nat) (W : World) (v : Value) : CK bm W (W.setCell ⟨bm, 0, none⟩ v) :=
  ⟨(grownBy_setCell' W bm v).size, fun a u hn hc => by rw [World.cell?_setCell_other _ _ _ _ (fun e => hn (by rw [← e]))]; exact hc⟩

set_option maxHeartbeats 1000000 in
theorem keys_any (s wo : Int) (ak : Option Addr) (ks : List (Int × Int × Int)) (ck : Nat) (ad : Option Addr) (ds : List Int) (cd : Nat) (ac : Option Addr) (nc cc : Nat) (ag : Option Addr) (ng cg : Nat) (w : World) :
    Calls Try.prog 79 #[.agg #[.int .i64 s, .int .i64 wo, .slice ak ks.length ck, .slice ad ds.length cd], .slice ac nc cc, .slice ag ng cg] w fun e w' =>
      e = .returned (.func (.func 96) #[] #[.pointer (some ⟨w.heap.size, 0, none⟩), .pointer (some ⟨w.heap.size + 1, 0, none⟩), .pointer (some ⟨w.heap.size + 1 + 1, 0, none⟩)]) ∧
      w' = ((w.alloc (.cells #[.int .i64 s, .int .i64 wo, .slice ak ks.length ck, .slice ad ds.length cd] 32)).alloc (.cells #[.slice ac nc cc] 23)).alloc (.cells #[.slice ag ng cg] 71) := by
  go_enter Try.func79, Try.ntmps79
  go_wp2
  go_ret
  exact ⟨rfl, rfl⟩

set_option maxRecDepth 100000 in
set_option maxHeartbeats 4000000 in
theorem fits_full (s wo : Int) (ak : Option Addr) (ks : List (Int × Int × Int)) (ck : Nat) (ad : Option Addr) (ds : List Int) (cd : Nat) (ac : Option Addr) (codes : List Int) (cc : Nat) (ag : Option Addr) (gs : List (Int × Int)) (cg : Nat) (w : World) (hk : Recs3At w ak ks) (hd : IntsAt w ad ds) (lk : ks.length ≤ 1000) (ld : ds.length ≤ 1000) (hc : IntsAt w ac codes) (lc : codes.length ≤ 1000) (hg : Recs2At w ag gs) (lg : gs.length ≤ 1000) :
    Calls Try.prog 40 #[.agg #[.int .i64 s, .int .i64 wo, .slice ak ks.length ck, .slice ad ds.length cd], .slice ac codes.length cc, .slice ag gs.length cg] w fun e w' =>
      e = .returned (.tuple #[.int .i64 (fitsN s wo ks ds codes gs), .int .i64 (fitsErr s wo ks ds codes gs)]) ∧ Below w.heap.size w w' := by
  by_cases he : askErr s wo ks ds codes gs = 0
  · obtain ⟨hbk, _, _, hco, hgo⟩ := askErr_ok he
    obtain ⟨_, _, s0, s1, _⟩ := bookErr_ok hbk
    have e1 : fitsN s wo ks ds codes gs = (keysN s codes gs).length := if_pos he
    have e2 : fitsErr s wo ks ds codes gs = if (keysN s codes gs).length = 0 then 11 else 0 := if_neg (by simp [he])
    have hkl := keysN_len s codes gs (by omega) s1
    have E1 := Lib.hid e1
    have E2 := Lib.hid e2
    have He := Lib.hid he
    clear e1 e2 hbk
    refine (callsIn_wide (n := 5)).1 ?_
    refine callsIn_of_wp_marks Try.func40 rfl trivial ?_ rfl
    simp only [Try.ntmps40, List.size_toArray, List.length_cons, List.length_nil, Nat.reduceAdd, Nat.reduceSub, Array.replicate_succ, Array.replicate_zero, List.push_toArray, List.append_toArray, List.nil_append, List.cons_append]
    have hask := fun W (hW : Below w.heap.size w W) => asked_any s wo ak ks ck ad ds cd ac codes cc ag gs cg W (hk.below hW) (hd.below hW) lk ld (hc.below hW) lc (hg.below hW) lg
    gi_wp2_with (first
      | (refine ⟨trivial, ?_⟩; gi_at_call 78; refine (callsIn_wide.2 (hask _ (by (repeat (first | exact Below.refl _ _ | refine Below.alloc ?_ (by first | omega | (simp; done) | (simp; omega)) _ | refine Below.drew ?_ | refine Below.setCell ?_ (by first | omega | (simp; done) | (simp; omega)) _ | refine Below.trans ?_ (Below.mono (by assumption) (by first | omega | (simp; done) | (simp; omega)))))))).mono ?_; rintro e w1 ⟨rfl, hb1⟩; obtain ⟨hc1, hf1, hz1⟩ := bcell hb1; (try simp at hz1); (try (have hy0 : w.heap.size < w1.heap.size := by omega)); (try (have hy1 : w.heap.size + 1 < w1.heap.size := by omega)); (try (have hy2 : w.heap.size + 2 < w1.heap.size := by omega)))
      | (refine ⟨trivial, ?_⟩; gi_at_call 79; refine (callsIn_wide.2 (keys_any s wo ak ks ck ad ds cd ac codes.length cc ag gs.length cg _)).mono ?_; rintro e w2 ⟨rfl, rfl⟩))
    have hw1 : Below w.heap.size w w1 := by (repeat (first | exact Below.refl _ _ | refine Below.alloc ?_ (by first | omega | (simp; done) | (simp; omega)) _ | refine Below.drew ?_ | refine Below.setCell ?_ (by first | omega | (simp; done) | (simp; omega)) _ | refine Below.trans ?_ (Below.mono (by assumption) (by first | omega | (simp; done) | (simp; omega)))))
    have hw1z := hw1.size
    obtain ⟨w2, hw2⟩ : ∃ x : World, x = w1.alloc (.cells #[.int .i64 0] 3) := ⟨_, rfl⟩
    have z2 : w2.heap.size = w1.heap.size + 1 := by rw [hw2]; simp
    have b2 : Below w1.heap.size w1 w2 := by rw [hw2]; exact (Below.refl _ _).alloc (Nat.le_refl _) _
    have x2 : Boxed w2 w1.heap.size 3 (.int .i64 0) := by rw [hw2]; exact Boxed.new _ _ _
    rw [← hw2]
    obtain ⟨w3, hw3⟩ : ∃ x : World, x = w2.alloc (.cells #[.int .i64 s, .int .i64 wo, .slice ak ks.length ck, .slice ad ds.length cd] 32) := ⟨_, rfl⟩
    have z3 : w3.heap.size = w1.heap.size + 1 + 1 := by rw [hw3]; simp [z2]
    have b3 : Below w2.heap.size w2 w3 := by rw [hw3]; exact (Below.refl _ _).alloc (Nat.le_refl _) _
    have x3 : Boxed w3 w1.heap.size 3 (.int .i64 0) := by rw [hw3]; exact x2.alloc _
    have q3 : BookAt w3 (w1.heap.size + 1) s wo ak ks.length ck ad ds.length cd := by rw [hw3, ← z2]; exact BookAt.new _ _ _ _ _ _ _ _ _ _
    rw [← hw3]
    obtain ⟨w4, hw4⟩ : ∃ x : World, x = w3.alloc (.cells #[.slice ac codes.length cc] 23) := ⟨_, rfl⟩
    have z4 : w4.heap.size = w1.heap.size + 1 + 1 + 1 := by rw [hw4]; simp [z3]
    have b4 : Below w3.heap.size w3 w4 := by rw [hw4]; exact (Below.refl _ _).alloc (Nat.le_refl _) _
    have x4 : Boxed w4 w1.heap.size 3 (.int .i64 0) := by rw [hw4]; exact x3.alloc _
    have q4 : w4.cell? ⟨w1.heap.size + 1 + 1, 0, none⟩ = some (.slice ac codes.length cc) := by rw [hw4, ← z3]; exact cell_new _ _ _ 0 _ rfl
    rw [← hw4]
    obtain ⟨w5, hw5⟩ : ∃ x : World, x = w4.alloc (.cells #[.slice ag gs.length cg] 71) := ⟨_, rfl⟩
    have z5 : w5.heap.size = w1.heap.size + 1 + 1 + 1 + 1 := by rw [hw5]; simp [z4]
    have b5 : Below w4.heap.size w4 w5 := by rw [hw5]; exact (Below.refl _ _).alloc (Nat.le_refl _) _
    have x5 : Boxed w5 w1.heap.size 3 (.int .i64 0) := by rw [hw5]; exact x4.alloc _
    have q5 : w5.cell? ⟨w1.heap.size + 1 + 1 + 1, 0, none⟩ = some (.slice ag gs.length cg) := by rw [hw5, ← z4]; exact cell_new _ _ _ 0 _ rfl
    rw [← hw5]
    clear hw2 hw3 hw4 hw5
    have b15 : Below w1.heap.size w1 w5 := b2.trans ((b3.trans ((b4.trans (b5.mono b4.size)).mono b3.size)).mono b2.size)
    have hW5 : Below w.heap.size w w5 := hw1.trans (b15.mono hw1z)
    have hstops := keys1_stops 4 (by omega) w1.heap.size (w1.heap.size + 1) (w1.heap.size + 1 + 1) (w1.heap.size + 1 + 1 + 1) s wo ak ks ck ad ds cd ac codes cc ag gs cg w5
      ((q3.below b4).below b5) (below_cell b5 q4) q5 (by omega) (by omega) (by omega) (by omega) ((hc.below hw1).toN b15 (Nat.le_refl _)) ((hg.below hw1).toN b15 (Nat.le_refl _)) (by omega) s1 lc lg hco hgo
    refine wpIn_rangeFunc_ownG rfl (by omega) (gf := 96) (lb := #[.pointer (some ⟨w1.heap.size + 1, 0, none⟩), .pointer (some ⟨w1.heap.size + 1 + 1, 0, none⟩), .pointer (some ⟨w1.heap.size + 1 + 1 + 1, 0, none⟩)]) rfl trivial (enters_of Try.func96 (by kernel_rfl) rfl)
      hstops CK.trans (fun W l o o' _ h ho _ => CK.putObj W l o o' h ho) (Below.refl _ _) (fun _ => rfl)
      (fun pre W => Boxed W w1.heap.size 3 (.int .i64 pre.length) ∧ Below w.heap.size w W)
      (fun _ _ _ => False)
      (OwnFrom.and (Own.from (boxed_own w1.heap.size 3 (fun pre : List K3 => .int .i64 pre.length)) _) (ownFrom_below (Nat.le_refl _) (by omega)))
      (fun _ _ _ _ _ hs _ _ => hs)
      ⟨x5, hW5⟩
      (fun x => { tmps := #[.agg #[.int .i64 s, .int .i64 wo, .slice ak ks.length ck, .slice ad ds.length cd], .slice ac codes.length cc, .slice ag gs.length cg, .pointer (some ⟨w.heap.size, 0, none⟩), undef, undef, .int .i64 0, .int .i64 0, .int .i64 0, .pointer (some ⟨w1.heap.size, 0, none⟩),
        .agg #[.int .i64 s, .int .i64 wo, .slice ak ks.length ck, .slice ad ds.length cd], .slice ac codes.length cc, .slice ag gs.length cg, .int .i64 0, .int .i64 0, .bool false, undef,
        .agg #[.int .i64 s, .int .i64 wo, .slice ak ks.length ck, .slice ad ds.length cd], .slice ac codes.length cc, .slice ag gs.length cg,
        .func (.func 96) #[] #[.pointer (some ⟨w1.heap.size + 1, 0, none⟩), .pointer (some ⟨w1.heap.size + 1 + 1, 0, none⟩), .pointer (some ⟨w1.heap.size + 1 + 1 + 1, 0, none⟩)],
        .agg #[.int .i64 x.1, .int .i64 x.2.1, .int .i64 x.2.2], undef, undef, undef, undef, undef], defers := [] }) ?assign ?body ?done ?stop
    case assign =>
      intro l x W K hK
      unfold encK
      gi_wp2
      simp
      exact hK
    case body =>
      rintro l pre x W ⟨hbx, hBW⟩ hlt
      have hcx := hbx.cell
      have hfx := hbx.frozen
      have hlx := hbx.lt
      gi_wp2
      exact ⟨(KeepsOthers.setCell _ _ _).from _, CK.setCell _ _ _, by rw [List.length_append]; exact hbx.set _, hBW.setCell (p := ⟨w1.heap.size, 0, none⟩) hw1z _⟩
    case done =>
      rintro D ys W hD rfl ⟨hbx, hBW⟩ hK
      have hcx := hbx.cell
      by_cases h0 : (keysN s codes gs).length = 0
      · rw [h0] at hcx
        have H0 := Lib.hid h0
        clear h0 hkl
        gi_wp2
        refine ⟨by simp, .inl ⟨_, _, rfl, run_takeDeferred hK, ?_⟩⟩
        refine ⟨_, results_tmp2 rfl _ _ _, ?_, hBW.trans (belowK_b (w := w) (Nat.le_refl _) W D _ _ (by omega) hK rfl rfl)⟩
        rw [E1.out, E2.out, H0.out]
        rfl
      · obtain ⟨N, hN⟩ : ∃ N, (keysN s codes gs).length = N := ⟨_, rfl⟩
        rw [hN] at hcx hkl h0
        have H0 := Lib.hid hN
        have hne : ((N : Int) == 0) = false := by simp; omega
        clear hN
        gi_wp2
        refine ⟨by simp, .inl ⟨_, _, rfl, run_takeDeferred hK, ?_⟩⟩
        refine ⟨_, results_tmp2 rfl _ _ _, ?_, hBW.trans (belowK_b (w := w) (Nat.le_refl _) W D _ _ (by omega) hK rfl rfl)⟩
        rw [E1.out, E2.out, H0.out, if_neg h0]
        rfl
    case stop =>
      rintro D c pre W _ _ h _
      exact h.elim
  · have e1 : fitsErr s wo ks ds codes gs = askErr s wo ks ds codes gs := if_pos he
    have e2 : fitsN s wo ks ds codes gs = 0 := if_neg he
    rw [e1, e2]
    have hne : (askErr s wo ks ds codes gs != 0) = true := by simpa using he
    clear he e1 e2
    go_enter Try.func40, Try.ntmps40
    go_wp2_with (go_at_call 78; refine (asked_any s wo ak ks ck ad ds cd ac codes cc ag gs cg _ (hk.below (by (repeat (first | exact Below.refl _ _ | refine Below.alloc ?_ (by first | omega | (simp; done) | (simp; omega)) _ | refine Below.drew ?_ | refine Below.setCell ?_ (by first | omega | (simp; done) | (simp; omega)) _ | refine Below.trans ?_ (Below.mono (by assumption) (by first | omega | (simp; done) | (simp; omega))))))) (hd.below (by (repeat (first | exact Below.refl _ _ | refine Below.alloc ?_ (by first | omega | (simp; done) | (simp; omega)) _ | refine Below.drew ?_ | refine Below.setCell ?_ (by first | omega | (simp; done) | (simp; omega)) _ | refine Below.trans ?_ (Below.mono (by assumption) (by first | omega | (simp; done) | (simp; omega))))))) lk ld (hc.below (by (repeat (first | exact Below.refl _ _ | refine Below.alloc ?_ (by first | omega | (simp; done) | (simp; omega)) _ | refine Below.drew ?_ | refine Below.setCell ?_ (by first | omega | (simp; done) | (simp; omega)) _ | refine Below.trans ?_ (Below.mono (by assumption) (by first | omega | (simp; done) | (simp; omega))))))) lc (hg.below (by (repeat (first | exact Below.refl _ _ | refine Below.alloc ?_ (by first | omega | (simp; done) | (simp; omega)) _ | refine Below.drew ?_ | refine Below.setCell ?_ (by first | omega | (simp; done) | (simp; omega)) _ | refine Below.trans ?_ (Below.mono (by assumption) (by first | omega | (simp; done) | (simp; omega))))))) lg).mono ?_; rintro e w1 ⟨rfl, hb1⟩; obtain ⟨hc1, hf1, hz1⟩ := bcell hb1; (try simp at hz1); (try (have hy0 : w.heap.size < w1.heap.size := by omega)); (try (have hy1 : w.heap.size + 1 < w1.heap.size := by omega)); (try (have hy2 : w.heap.size + 2 < w1.heap.size := by omega)))
    go_ret2
    exact ⟨rfl, by (repeat (first | exact Below.refl _ _ | refine Below.alloc ?_ (by first | omega | (simp; done) | (simp; omega)) _ | refine Below.drew ?_ | refine Below.setCell ?_ (by first | omega | (simp; done) | (simp; omega)) _ | refine Below.trans ?_ (Below.mono (by assumption) (by first | omega | (simp; done) | (simp; omega)))))⟩
end Go.Proofs.Ytmplgcefhpobgaa
