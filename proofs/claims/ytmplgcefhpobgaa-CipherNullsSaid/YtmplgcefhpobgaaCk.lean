/- cipher: Exposed -/
import Derived.Test.YtmplgcefhpobgaaCj
namespace Go.Proofs.Ytmplgcefhpobgaa
set_option linter.unusedVariables false
set_option linter.unusedSimpArgs false
set_option linter.unnecessarySimpa false
open Go.RowKit Go.Flow

def fromN (lost : List (Int × Int)) (key : Int) (day : Int) : Int := if hadN lost key = -1 then -1 else max (hadN lost key) day
def expRes (ds : List Int) (lost : List (Int × Int)) : List Int := upTo (fun i => fromN lost (ds.getD i 0) i) ds.length
def expOut (s wo : Int) (ks : List (Int × Int × Int)) (ds : List Int) (lost : List (Int × Int)) : List Int := if lossErr s wo ks ds lost = 0 then expRes ds lost else []

set_option maxHeartbeats 1000000 in
theorem exposed_full (s wo : Int) (ak : Option Addr) (ks : List (Int × Int × Int)) (ck : Nat) (ad : Option Addr) (ds : List Int) (cd : Nat) (al : Option Addr) (lost : List (Int × Int)) (cl : Nat) (w : World) (hk : Recs3At w ak ks) (hd : IntsAt w ad ds) (lk : ks.length ≤ 1000) (ld : ds.length ≤ 1000) (hl : Recs2At w al lost) (ll : lost.length ≤ 1000) :
    Calls Try.prog 29 #[.agg #[.int .i64 s, .int .i64 wo, .slice ak ks.length ck, .slice ad ds.length cd], .slice al lost.length cl] w fun e w' => SliceErr w.heap.size (expOut s wo ks ds lost) (lossErr s wo ks ds lost) e w' ∧ Below w.heap.size w w' := by
  by_cases he : lossErr s wo ks ds lost = 0
  · have He := Lib.hid he
    go_enter Try.func29, Try.ntmps29
    go_wp2_with (go_at_call 71; refine (losses_any s wo ak ks ck ad ds cd al lost cl _ (hk.below (by (repeat (first | exact Below.refl _ _ | refine Below.alloc ?_ (by first | omega | (simp; done) | (simp; omega)) _ | refine Below.drew ?_ | refine Below.setCell ?_ (by first | omega | (simp; done) | (simp; omega)) _ | refine Below.trans ?_ (Below.mono (by assumption) (by first | omega | (simp; done) | (simp; omega))))))) (hd.below (by (repeat (first | exact Below.refl _ _ | refine Below.alloc ?_ (by first | omega | (simp; done) | (simp; omega)) _ | refine Below.drew ?_ | refine Below.setCell ?_ (by first | omega | (simp; done) | (simp; omega)) _ | refine Below.trans ?_ (Below.mono (by assumption) (by first | omega | (simp; done) | (simp; omega))))))) lk ld (hl.below (by (repeat (first | exact Below.refl _ _ | refine Below.alloc ?_ (by first | omega | (simp; done) | (simp; omega)) _ | refine Below.drew ?_ | refine Below.setCell ?_ (by first | omega | (simp; done) | (simp; omega)) _ | refine Below.trans ?_ (Below.mono (by assumption) (by first | omega | (simp; done) | (simp; omega))))))) ll).mono ?_; rintro e w1 ⟨rfl, hb1⟩; obtain ⟨hc1, hf1, hz1⟩ := bcell hb1; (try simp at hz1); (try (have hy0 : w.heap.size < w1.heap.size := by omega)); (try (have hy1 : w.heap.size + 1 < w1.heap.size := by omega)); (try (have hy2 : w.heap.size + 2 < w1.heap.size := by omega)))
    have hwB : Below w.heap.size w w1 := by (repeat (first | exact Below.refl _ _ | refine Below.alloc ?_ (by first | omega | (simp; done) | (simp; omega)) _ | refine Below.drew ?_ | refine Below.setCell ?_ (by first | omega | (simp; done) | (simp; omega)) _ | refine Below.trans ?_ (Below.mono (by assumption) (by first | omega | (simp; done) | (simp; omega)))))
    have hres : Hid (expOut s wo ks ds lost = expRes ds lost) := if_pos he
    clear he
    obtain ⟨F, hF⟩ : ∃ F : Nat → Int, (fun i : Nat => fromN lost (ds.getD i 0) i) = F := ⟨_, rfl⟩
    have HF := Lib.hid hF
    clear hF
    obtain ⟨wL, hwL⟩ : ∃ x : World, x = w1 := ⟨_, rfl⟩
    subst hwL
    go_loopw [7, 8, 9, 10, 20] (fun v _ _ _ i wr => ∃ (k : Nat) (a' : Option Addr) (c' : Nat), k ≤ ds.length ∧ i = .int .i64 k ∧ v = .slice a' k c' ∧ OwnL 3 1 wL.heap.size wr a' c' k ((upTo F k).map (Value.int .i64)) ∧ Below wL.heap.size wL wr)
      (fun _ _ _ _ i _ => ds.length - (intOf i).toNat)
    case atStart => exact ⟨0, none, 0, Nat.zero_le _, rfl, rfl, OwnL.nil _ _ _ _, Below.refl _ _⟩
    case round =>
      obtain ⟨k, a', c', hk', rfl, rfl, hown, hbel⟩ := hrel
      have hwr : Below w.heap.size w wr := hwB.trans (hbel.mono hwB.size)
      have hzz : wL.heap.size ≤ wr.heap.size := hbel.size
      by_cases hlt : k < ds.length
      · obtain ⟨b, off, rfl, hbl, hc⟩ := (hd.below hwr) k hlt
        have hfr : F k = if hadN lost ds[k] = -1 then -1 else max (hadN lost ds[k]) k := by rw [← HF.out]; simp [fromN, hlt]
        have Hfr := Lib.hid hfr
        clear hfr
        obtain ⟨f, hf⟩ : ∃ f, hadN lost ds[k] = f := ⟨_, rfl⟩
        rw [hf] at Hfr
        by_cases c1 : f = -1
        · have d1 : (f != -1) = false := by simpa using c1
          have hv : F k = f := by rw [Hfr.out, if_pos c1, c1]
          have Hv := Lib.hid hv
          clear hv c1
          go_wp2_with (first
            | (at_builtin; refine wpList_app_lit elInt rfl _ _ rfl _ _ _ _ _ rfl (hown.kept hb1) 1 1 rfl rfl (fun u hu => ?c1) ?c2 ?c3 ?c4 ?_)
            | (go_at_call 72; refine (had_any al lost cl ds[k] _ (hl.below hwr) ll).mono ?_; rw [hf]; rintro e w1 ⟨rfl, hb1⟩; obtain ⟨hc1, hf1, hz1⟩ := bcell hb1))
          case c1 => simp at hu; subst hu; rfl
          case c2 => unfold maxLen; omega
          case c3 => omega
          case c4 => omega
          intro a2 c2 w2 hown2 hb2
          go_wp2
          go_roundw
          case rel => exact ⟨k + 1, a2, c2, by omega, by go_num, rfl, by rw [upTo_succ, List.map_append, Hv.out]; exact hown2, hbel.trans ((hb1.mono hzz).trans hb2)⟩
          case measure => simp [intOf]; omega
        · have d1 : (f != -1) = true := by simpa using c1
          by_cases cm : f < (k : Int)
          · have hv : F k = (k : Int) := by rw [Hfr.out, if_neg c1, Int.max_eq_right (by omega)]
            have Hv := Lib.hid hv
            clear hv c1
            go_wp2_with (first
              | (at_builtin; refine wpList_app_lit elInt rfl _ _ rfl _ _ _ _ _ rfl (hown.kept hb1) 1 1 rfl rfl (fun u hu => ?d1) ?d2 ?d3 ?d4 ?_)
              | (go_at_call 72; refine (had_any al lost cl ds[k] _ (hl.below hwr) ll).mono ?_; rw [hf]; rintro e w1 ⟨rfl, hb1⟩; obtain ⟨hc1, hf1, hz1⟩ := bcell hb1))
            case d1 => simp at hu; subst hu; rfl
            case d2 => unfold maxLen; omega
            case d3 => omega
            case d4 => omega
            intro a2 c2 w2 hown2 hb2
            go_wp2
            go_roundw
            case rel => exact ⟨k + 1, a2, c2, by omega, by go_num, rfl, by rw [upTo_succ, List.map_append, Hv.out]; exact hown2, hbel.trans ((hb1.mono hzz).trans hb2)⟩
            case measure => simp [intOf]; omega
          · have cm2 : (k : Int) ≤ f := by omega
            have hv : F k = f := by rw [Hfr.out, if_neg c1, Int.max_eq_left (by omega)]
            have Hv := Lib.hid hv
            clear hv c1
            go_wp2_with (first
              | (at_builtin; refine wpList_app_lit elInt rfl _ _ rfl _ _ _ _ _ rfl (hown.kept hb1) 1 1 rfl rfl (fun u hu => ?e1) ?e2 ?e3 ?e4 ?_)
              | (go_at_call 72; refine (had_any al lost cl ds[k] _ (hl.below hwr) ll).mono ?_; rw [hf]; rintro e w1 ⟨rfl, hb1⟩; obtain ⟨hc1, hf1, hz1⟩ := bcell hb1))
            case e1 => simp at hu; subst hu; rfl
            case e2 => unfold maxLen; omega
            case e3 => omega
            case e4 => omega
            intro a2 c2 w2 hown2 hb2
            go_wp2
            go_roundw
            case rel => exact ⟨k + 1, a2, c2, by omega, by go_num, rfl, by rw [upTo_succ, List.map_append, Hv.out]; exact hown2, hbel.trans ((hb1.mono hzz).trans hb2)⟩
            case measure => simp [intOf]; omega
      · obtain rfl : k = ds.length := by omega
        go_wp2
        go_ret2
        refine ⟨?_, hwr⟩
        rw [hres.out, He.out]
        unfold expRes
        rw [HF.out]
        exact ⟨a', c', by rw [upTo_len]; rfl, by rw [upTo_len]; exact hown.base_le hwB.size⟩
  · have e2 : expOut s wo ks ds lost = [] := if_neg he
    rw [e2]
    have hne : (lossErr s wo ks ds lost != 0) = true := by simpa using he
    clear he e2
    go_enter Try.func29, Try.ntmps29
    go_wp2_with (go_at_call 71; refine (losses_any s wo ak ks ck ad ds cd al lost cl _ (hk.below (by (repeat (first | exact Below.refl _ _ | refine Below.alloc ?_ (by first | omega | (simp; done) | (simp; omega)) _ | refine Below.drew ?_ | refine Below.setCell ?_ (by first | omega | (simp; done) | (simp; omega)) _ | refine Below.trans ?_ (Below.mono (by assumption) (by first | omega | (simp; done) | (simp; omega))))))) (hd.below (by (repeat (first | exact Below.refl _ _ | refine Below.alloc ?_ (by first | omega | (simp; done) | (simp; omega)) _ | refine Below.drew ?_ | refine Below.setCell ?_ (by first | omega | (simp; done) | (simp; omega)) _ | refine Below.trans ?_ (Below.mono (by assumption) (by first | omega | (simp; done) | (simp; omega))))))) lk ld (hl.below (by (repeat (first | exact Below.refl _ _ | refine Below.alloc ?_ (by first | omega | (simp; done) | (simp; omega)) _ | refine Below.drew ?_ | refine Below.setCell ?_ (by first | omega | (simp; done) | (simp; omega)) _ | refine Below.trans ?_ (Below.mono (by assumption) (by first | omega | (simp; done) | (simp; omega))))))) ll).mono ?_; rintro e w1 ⟨rfl, hb1⟩; obtain ⟨hc1, hf1, hz1⟩ := bcell hb1; (try simp at hz1); (try (have hy0 : w.heap.size < w1.heap.size := by omega)); (try (have hy1 : w.heap.size + 1 < w1.heap.size := by omega)); (try (have hy2 : w.heap.size + 2 < w1.heap.size := by omega)))
    go_ret2
    exact ⟨SliceErr.err, by (repeat (first | exact Below.refl _ _ | refine Below.alloc ?_ (by first | omega | (simp; done) | (simp; omega)) _ | refine Below.drew ?_ | refine Below.setCell ?_ (by first | omega | (simp; done) | (simp; omega)) _ | refine Below.trans ?_ (Below.mono (by assumption) (by first | omega | (simp; done) | (simp; omega)))))⟩

end Go.Proofs.Ytmplgcefhpobgaa
