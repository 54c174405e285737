/- cipher: losses and guesses converted; the error of losses; Had · cipher: the reference's Exposed -/
import Derived.Test.YtmplgcefhpobgaaLa
namespace Go.Proofs.Ytmplgcefhpobgaa
set_option linter.unusedVariables false
set_option linter.unusedSimpArgs false
set_option linter.unnecessarySimpa false
open Go.RowKit Go.Flow

def flat2 (xs : List (Int × Int)) : List Value := xs.flatMap fun x => [.int .i64 x.1, .int .i64 x.2]
theorem flat2_get : ∀ (xs : List (Int × Int)) (k : Nat) (h : k < xs.length), (flat2 xs)[k * 2]? = some (.int .i64 xs[k].1) ∧ (flat2 xs)[k * 2 + 1]? = some (.int .i64 xs[k].2)
  | x :: xs, 0, _ => by simp [flat2]
  | x :: xs, k + 1, h => by
    obtain ⟨a, b⟩ := flat2_get xs k (by simpa using h)
    have e : flat2 (x :: xs) = .int .i64 x.1 :: .int .i64 x.2 :: flat2 xs := by simp [flat2]
    rw [e, show (k + 1) * 2 = k * 2 + 2 by omega]
    exact ⟨a, b⟩
theorem flat2_snoc (xs : List (Int × Int)) (x : Int × Int) : flat2 (xs ++ [x]) = flat2 xs ++ [.int .i64 x.1, .int .i64 x.2] := by simp [flat2]
theorem flat2_take (xs : List (Int × Int)) (k : Nat) (h : k < xs.length) : flat2 (xs.take (k + 1)) = flat2 (xs.take k) ++ [.int .i64 xs[k].1, .int .i64 xs[k].2] := by
  rw [List.take_succ_eq_append_getElem h, flat2_snoc]
theorem OwnL.recs2 {T : TypeId} {base : Nat} {w : World} {a : Option Addr} {c n : Nat} {xs : List (Int × Int)} (h : OwnL T 2 base w a c n (flat2 xs)) : Recs2At w a xs := fun k hk => by
  rcases h.form with ⟨_, _, _, h4⟩ | ⟨g, rfl, _, hlt, _, _, _, hc⟩
  · have := (flat2_get xs k hk).1; rw [h4] at this; simp at this
  · obtain ⟨e0, e1⟩ := flat2_get xs k hk
    exact ⟨g, 0, rfl, hlt, by rw [Nat.zero_add]; exact hc _ _ e0, by rw [Nat.zero_add]; exact hc _ _ e1⟩

theorem info_losses : (Try.prog.info? 110).map (fun i => (i.zero, i.size, i.bytes)) = some (some (.agg #[.int .i64 0, .int .i64 0]), 2, 16) := by kernel_rfl
theorem el_losses : Elem Try.prog 49 110 (.agg #[.int .i64 0, .int .i64 0]) 2 16 := ⟨Try.underlying49, info_parts info_losses, rfl, by decide⟩
set_option maxRecDepth 100000 in
set_option maxHeartbeats 2000000 in
theorem lossesConv_at (al : Option Addr) (xs : List (Int × Int)) (cl : Nat) (w : World) (hx : Recs2At w al xs) (lx : xs.length ≤ 1000) :
    Calls Try.prog 30 #[.slice al xs.length cl] w fun e w' => (∃ a c, e = .returned (.slice a xs.length c) ∧ Recs2At w' a xs ∧ (a = none → c = 0)) ∧ Below w.heap.size w w' := by
  go_enter Try.func30, Try.ntmps30
  go_wp2
  go_loopw [3, 4] (fun v i wr => ∃ (k : Nat) (a' : Option Addr) (c' : Nat), k ≤ xs.length ∧ i = .int .i64 k ∧ v = .slice a' k c' ∧ OwnL 110 2 w.heap.size wr a' c' k (flat2 (xs.take k)) ∧ Below w.heap.size w wr) (fun _ i _ => xs.length - (intOf i).toNat)
  case atStart => exact ⟨0, none, 0, Nat.zero_le _, rfl, rfl, OwnL.nil _ _ _ _, Below.refl _ _⟩
  case round =>
    obtain ⟨k, a', c', hk, rfl, rfl, hown, hwr⟩ := hrel
    have hz := hwr.size
    by_cases hlt : k < xs.length
    · obtain ⟨b, off, rfl, hbl, c0, c1⟩ := (hx.below hwr) k hlt
      have hltI : (k : Int) < (xs.length : Int) := by omega
      obtain ⟨⟨x, y⟩, hxe⟩ : ∃ x, xs[k] = x := ⟨_, rfl⟩
      rw [hxe] at c0 c1
      simp only at c0 c1
      have Hx := Lib.hid hxe
      clear hxe
      go_wp2
      (refine wp_region_seq 13 [] [13, 14] 26 [true, true, true, true, true, true, true, true, true, true, true, true, false] [LitV w.heap.size 1 #[.int .i64 x, .int .i64 y] 110] (by kernel_rfl) (by kernel_rfl) rfl (mono_cons (fun v w w' h hb => h.kept hb) mono_nil) ?_; simp only [pickOps, List.filterMap_cons, List.filterMap_nil, List.getElem?_toArray, List.getElem?_cons_succ, List.getElem?_cons_zero]; (repeat (refine wpFl_step _ rfl (fun w => (by go_simp; rfl)) ?_)); refine wpFl_nil ?_; simp only [maskOps, dummy, Act.put, List.setIfInBounds_toArray, List.set_cons_zero, List.set_cons_succ, List.take_succ_cons, List.take_zero, List.drop_succ_cons, List.drop_zero]; (repeat (refine wpQB_step (fun K hK => ?_); go_simp; first | (refine hK _ ?_; clear hK K) | (apply Exists.intro; refine ⟨fun ex => ?_, hK _ ?_⟩; (fail); clear hK K))); refine wpQB_nil ?_; simp only [relObl2, under, relEnd, and_true, List.nil_append, List.cons_append])
      exact ⟨fun e => by go_simp; exact ⟨(Below.refl _ _).alloc (Nat.le_refl _) _, e.to.heap.size, rfl, by have := e.size; omega, Cells.new _ _ _⟩, fun e => by
          rintro v1 ⟨gg, rfl, hg1, hgg⟩
          simp only [Act.put, List.setIfInBounds_toArray, List.set_cons_zero, List.set_cons_succ]
          have heb := e.below
          have hez := e.size
          have hown4 := hown.kept heb
          obtain ⟨w5, hw5⟩ : ∃ x : World, x = e.to := ⟨_, rfl⟩
          rw [← hw5] at heb hez hgg hown4 ⊢
          clear hw5
          refine wpList_app el_losses rfl _ _ rfl w.heap.size a' k c' _ rfl hown4 (some ⟨gg, 0, none⟩) 1 1 _ rfl (fun h => by cases h) rfl hgg.src (fun u hu => by simp at hu; rcases hu with rfl | rfl <;> rfl) (by unfold maxLen; omega) (by omega) (by omega) ?_
          intro a6 c6 w6 hown6 hb6
          go_wp2
          go_roundw
          case rel => exact ⟨k + 1, a6, c6, by omega, by go_num, rfl, by rw [flat2_take xs k hlt, Hx.out]; exact hown6, (hwr.trans (heb.mono (by omega))).trans hb6⟩
          case measure => simp [intOf]; omega⟩
    · obtain rfl : k = xs.length := by omega
      rw [List.take_length] at hown
      go_wp2
      go_ret
      exact ⟨⟨a', c', rfl, hown.recs2, fun h => by subst h; exact hown.isnil.2⟩, hwr⟩

theorem info_guesses : (Try.prog.info? 88).map (fun i => (i.zero, i.size, i.bytes)) = some (some (.agg #[.int .i64 0, .int .i64 0]), 2, 16) := by kernel_rfl
theorem el_guesses : Elem Try.prog 71 88 (.agg #[.int .i64 0, .int .i64 0]) 2 16 := ⟨Try.underlying71, info_parts info_guesses, rfl, by decide⟩
set_option maxRecDepth 100000 in
set_option maxHeartbeats 2000000 in
theorem guessesConv_at (al : Option Addr) (xs : List (Int × Int)) (cl : Nat) (w : World) (hx : Recs2At w al xs) (lx : xs.length ≤ 1000) :
    Calls Try.prog 41 #[.slice al xs.length cl] w fun e w' => (∃ a c, e = .returned (.slice a xs.length c) ∧ Recs2At w' a xs ∧ (a = none → c = 0)) ∧ Below w.heap.size w w' := by
  go_enter Try.func41, Try.ntmps41
  go_wp2
  go_loopw [3, 4] (fun v i wr => ∃ (k : Nat) (a' : Option Addr) (c' : Nat), k ≤ xs.length ∧ i = .int .i64 k ∧ v = .slice a' k c' ∧ OwnL 88 2 w.heap.size wr a' c' k (flat2 (xs.take k)) ∧ Below w.heap.size w wr) (fun _ i _ => xs.length - (intOf i).toNat)
  case atStart => exact ⟨0, none, 0, Nat.zero_le _, rfl, rfl, OwnL.nil _ _ _ _, Below.refl _ _⟩
  case round =>
    obtain ⟨k, a', c', hk, rfl, rfl, hown, hwr⟩ := hrel
    have hz := hwr.size
    by_cases hlt : k < xs.length
    · obtain ⟨b, off, rfl, hbl, c0, c1⟩ := (hx.below hwr) k hlt
      have hltI : (k : Int) < (xs.length : Int) := by omega
      obtain ⟨⟨x, y⟩, hxe⟩ : ∃ x, xs[k] = x := ⟨_, rfl⟩
      rw [hxe] at c0 c1
      simp only at c0 c1
      have Hx := Lib.hid hxe
      clear hxe
      go_wp2
      (refine wp_region_seq 13 [] [13, 14] 26 [true, true, true, true, true, true, true, true, true, true, true, true, false] [LitV w.heap.size 1 #[.int .i64 x, .int .i64 y] 88] (by kernel_rfl) (by kernel_rfl) rfl (mono_cons (fun v w w' h hb => h.kept hb) mono_nil) ?_; simp only [pickOps, List.filterMap_cons, List.filterMap_nil, List.getElem?_toArray, List.getElem?_cons_succ, List.getElem?_cons_zero]; (repeat (refine wpFl_step _ rfl (fun w => (by go_simp; rfl)) ?_)); refine wpFl_nil ?_; simp only [maskOps, dummy, Act.put, List.setIfInBounds_toArray, List.set_cons_zero, List.set_cons_succ, List.take_succ_cons, List.take_zero, List.drop_succ_cons, List.drop_zero]; (repeat (refine wpQB_step (fun K hK => ?_); go_simp; first | (refine hK _ ?_; clear hK K) | (apply Exists.intro; refine ⟨fun ex => ?_, hK _ ?_⟩; (fail); clear hK K))); refine wpQB_nil ?_; simp only [relObl2, under, relEnd, and_true, List.nil_append, List.cons_append])
      exact ⟨fun e => by go_simp; exact ⟨(Below.refl _ _).alloc (Nat.le_refl _) _, e.to.heap.size, rfl, by have := e.size; omega, Cells.new _ _ _⟩, fun e => by
          rintro v1 ⟨gg, rfl, hg1, hgg⟩
          simp only [Act.put, List.setIfInBounds_toArray, List.set_cons_zero, List.set_cons_succ]
          have heb := e.below
          have hez := e.size
          have hown4 := hown.kept heb
          obtain ⟨w5, hw5⟩ : ∃ x : World, x = e.to := ⟨_, rfl⟩
          rw [← hw5] at heb hez hgg hown4 ⊢
          clear hw5
          refine wpList_app el_guesses rfl _ _ rfl w.heap.size a' k c' _ rfl hown4 (some ⟨gg, 0, none⟩) 1 1 _ rfl (fun h => by cases h) rfl hgg.src (fun u hu => by simp at hu; rcases hu with rfl | rfl <;> rfl) (by unfold maxLen; omega) (by omega) (by omega) ?_
          intro a6 c6 w6 hown6 hb6
          go_wp2
          go_roundw
          case rel => exact ⟨k + 1, a6, c6, by omega, by go_num, rfl, by rw [flat2_take xs k hlt, Hx.out]; exact hown6, (hwr.trans (heb.mono (by omega))).trans hb6⟩
          case measure => simp [intOf]; omega⟩
    · obtain rfl : k = xs.length := by omega
      rw [List.take_length] at hown
      go_wp2
      go_ret
      exact ⟨⟨a', c', rfl, hown.recs2, fun h => by subst h; exact hown.isnil.2⟩, hwr⟩

def lossRef (nk nd : Nat) (lost : List (Int × Int)) : Int := if 6 < (lost.length : Int) then 3 else if lost.all (lossOk nk nd) = false then 2 else 0
theorem lossRef_err {s wo : Int} {ks : List K3} {ds : List Int} {lost : List (Int × Int)} (h : bookErr s wo ks ds = 0) : lossErr s wo ks ds lost = lossRef ks.length ds.length lost := by
  unfold lossErr lossRef; rw [if_neg (by simp [h])]

set_option maxRecDepth 100000 in
set_option maxHeartbeats 2000000 in
theorem lossFault_any (s wo : Int) (ak : Option Addr) (ks : List (Int × Int × Int)) (ck : Nat) (ad : Option Addr) (ds : List Int) (cd : Nat) (al : Option Addr) (lost : List (Int × Int)) (cl : Nat) (w : World) (hk : Recs3At w ak ks) (hd : IntsAt w ad ds) (lk : ks.length ≤ 1000) (ld : ds.length ≤ 1000) (hl : Recs2At w al lost) (ll : lost.length ≤ 1000) :
    Calls Try.prog 73 #[.agg #[.int .i64 s, .int .i64 wo, .slice ak ks.length ck, .slice ad ds.length cd], .slice al lost.length cl] w fun e w' => e = .returned (.int .i64 (lossRef ks.length ds.length lost)) ∧ Below w.heap.size w w' := by
  by_cases h6 : 6 < (lost.length : Int)
  · have Hr : Hid (lossRef ks.length ds.length lost = 3) := Lib.hid (if_pos h6)
    go_enter Try.func73, Try.ntmps73
    go_wp2
    go_ret
    rw [Hr.out]
    exact ⟨rfl, by (repeat (first | exact Below.refl _ _ | refine Below.alloc ?_ (by first | omega | (simp; done) | (simp; omega)) _ | refine Below.drew ?_ | refine Below.setCell ?_ (by first | omega | (simp; done) | (simp; omega)) _ | refine Below.trans ?_ (Below.mono (by assumption) (by first | omega | (simp; done) | (simp; omega)))))⟩
  · have H6 := Lib.hid h6
    go_enter Try.func73, Try.ntmps73
    go_wp2
    go_loopw [5] (fun i wr => ∃ k : Nat, k ≤ lost.length ∧ i = .int .i64 k ∧ (lost.take k).all (lossOk ks.length ds.length) = true ∧ Below (w.heap.size + 1) (w.alloc (.cells #[.int .i64 s, .int .i64 wo, .slice ak ks.length ck, .slice ad ds.length cd] 25)) wr) (fun i _ => lost.length - (intOf i).toNat)
    case atStart => exact ⟨0, Nat.zero_le _, rfl, rfl, Below.refl _ _⟩
    case round =>
      obtain ⟨k, hkk, rfl, hall, hb⟩ := hrel
      have Hall := Lib.hid hall
      clear hall
      have hBr := BookAt.of hb
      have hwr : Below w.heap.size w wr := Below.trans (by (repeat (first | exact Below.refl _ _ | refine Below.alloc ?_ (by first | omega | (simp; done) | (simp; omega)) _ | refine Below.drew ?_ | refine Below.setCell ?_ (by first | omega | (simp; done) | (simp; omega)) _ | refine Below.trans ?_ (Below.mono (by assumption) (by first | omega | (simp; done) | (simp; omega)))))) (hb.mono (by omega))
      have hz := hBr.lt
      obtain ⟨q0, q1, q2, q3⟩ := hBr
      by_cases hlt : k < lost.length
      · obtain ⟨b, off, rfl, hbl, c0, c1⟩ := (hl.below hwr) k hlt
        have hltI : (k : Int) < (lost.length : Int) := by omega
        obtain ⟨⟨x, y⟩, hx⟩ : ∃ x, lost[k] = x := ⟨_, rfl⟩
        rw [hx] at c0 c1
        simp only at c0 c1
        have Hx := Lib.hid hx
        clear hx
        cases h1 : ownOk ks.length x
        · have Hr : Hid (lossRef ks.length ds.length lost = 2) := Lib.hid (by unfold lossRef; rw [if_neg (by have := H6.out; omega), if_pos (all_false_at hlt (by rw [Hx.out]; simp [lossOk, h1]))])
          have H1 : Hid ((decide (0 ≤ x) && decide (x ≤ (ks.length : Int) - 1)) = false) := Lib.hid h1
          clear h1
          go_wp2
          (refine wp_region_ext 24 (by kernel_rfl) (by kernel_rfl) ?_; simp only [List.take_succ_cons, List.take_zero, List.drop_succ_cons, List.drop_zero]; (repeat (go_big_quiet_step (((go_at_call 23; refine Calls_ext_same (in_eq x 0 ((ks.length : Int) - 1) _ H1 _)))))); refine wpQuiet_nil ?_; rintro _ ⟨ex, rfl⟩; have hex := ex.below; have hexz := ex.size; (try simp at hexz); (try (have hy0 : w.heap.size < ex.to.heap.size := by omega)); (try (have hy1 : w.heap.size + 1 < ex.to.heap.size := by omega)); (try (have hy2 : w.heap.size + 2 < ex.to.heap.size := by omega)))
          go_wp2
          go_ret
          rw [Hr.out]
          exact ⟨rfl, hwr.trans (ex.below.mono hwr.size)⟩
        · have H1 : Hid ((decide (0 ≤ x) && decide (x ≤ (ks.length : Int) - 1)) = true) := Lib.hid h1
          cases h2 : ownOk ds.length y
          · have Hr : Hid (lossRef ks.length ds.length lost = 2) := Lib.hid (by unfold lossRef; rw [if_neg (by have := H6.out; omega), if_pos (all_false_at hlt (by rw [Hx.out]; simp [lossOk, h1, h2]))])
            have H2 : Hid ((decide (0 ≤ y) && decide (y ≤ (ds.length : Int) - 1)) = false) := Lib.hid h2
            clear h1 h2
            go_wp2
            (refine wp_region_ext 24 (by kernel_rfl) (by kernel_rfl) ?_; simp only [List.take_succ_cons, List.take_zero, List.drop_succ_cons, List.drop_zero]; (repeat (go_big_quiet_step (((first | (go_at_call 23; with_reducible (refine Calls_ext_same (in_eq x 0 ((ks.length : Int) - 1) _ H1 _))) | (go_at_call 23; with_reducible (refine Calls_ext_same (in_eq y 0 ((ds.length : Int) - 1) _ H2 _)))))))); refine wpQuiet_nil ?_; rintro _ ⟨ex, rfl⟩; have hex := ex.below; have hexz := ex.size; (try simp at hexz); (try (have hy0 : w.heap.size < ex.to.heap.size := by omega)); (try (have hy1 : w.heap.size + 1 < ex.to.heap.size := by omega)); (try (have hy2 : w.heap.size + 2 < ex.to.heap.size := by omega)))
            go_wp2
            go_ret
            rw [Hr.out]
            exact ⟨rfl, hwr.trans (ex.below.mono hwr.size)⟩
          · have Hr := Lib.hid (all_take_succ (p := lossOk ks.length ds.length) hlt Hall.out (by rw [Hx.out]; simp [lossOk, h1, h2]))
            have H2 : Hid ((decide (0 ≤ y) && decide (y ≤ (ds.length : Int) - 1)) = true) := Lib.hid h2
            clear h1 h2
            go_wp2
            (refine wp_region_ext 24 (by kernel_rfl) (by kernel_rfl) ?_; simp only [List.take_succ_cons, List.take_zero, List.drop_succ_cons, List.drop_zero]; (repeat (go_big_quiet_step (((first | (go_at_call 23; with_reducible (refine Calls_ext_same (in_eq x 0 ((ks.length : Int) - 1) _ H1 _))) | (go_at_call 23; with_reducible (refine Calls_ext_same (in_eq y 0 ((ds.length : Int) - 1) _ H2 _)))))))); refine wpQuiet_nil ?_; rintro _ ⟨ex, rfl⟩; have hex := ex.below; have hexz := ex.size; (try simp at hexz); (try (have hy0 : w.heap.size < ex.to.heap.size := by omega)); (try (have hy1 : w.heap.size + 1 < ex.to.heap.size := by omega)); (try (have hy2 : w.heap.size + 2 < ex.to.heap.size := by omega)))
            go_wp2
            go_roundw
            case rel => exact ⟨k + 1, by omega, by go_num, Hr.out, hb.trans (ex.below.mono (by omega))⟩
            case measure => simp [intOf]; omega
      · have Hr : Hid (lossRef ks.length ds.length lost = 0) := Lib.hid (by unfold lossRef; rw [if_neg (by have := H6.out; omega), if_neg (by rw [all_of_take (by omega) Hall.out]; simp)])
        go_wp2
        go_ret
        rw [Hr.out]
        exact ⟨rfl, hwr⟩

set_option maxHeartbeats 1000000 in
theorem lossy_any (s wo : Int) (ak : Option Addr) (ks : List (Int × Int × Int)) (ck : Nat) (ad : Option Addr) (ds : List Int) (cd : Nat) (al : Option Addr) (lost : List (Int × Int)) (cl : Nat) (w : World) (hk : Recs3At w ak ks) (hd : IntsAt w ad ds) (lk : ks.length ≤ 1000) (ld : ds.length ≤ 1000) (hl : Recs2At w al lost) (ll : lost.length ≤ 1000) :
    Calls Try.prog 31 #[.agg #[.int .i64 s, .int .i64 wo, .slice ak ks.length ck, .slice ad ds.length cd], .slice al lost.length cl] w fun e w' => e = .returned (.int .i64 (lossErr s wo ks ds lost)) ∧ Below w.heap.size w w' := by
  by_cases hb : bookErr s wo ks ds = 0
  · have HE := Lib.hid hb
    have Hr := Lib.hid (lossRef_err (lost := lost) hb)
    have hlb : 0 ≤ lossRef ks.length ds.length lost ∧ lossRef ks.length ds.length lost ≤ 3 := by unfold lossRef; split <;> (try split) <;> omega
    obtain ⟨x0, x1⟩ := hlb
    clear hb
    go_enter Try.func31, Try.ntmps31
    go_wp2_with (first
      | (go_at_call 22; refine (fault_eq s wo ak ks ck ad ds cd 0 HE _ (hk.below (by (repeat (first | exact Below.refl _ _ | refine Below.alloc ?_ (by first | omega | (simp; done) | (simp; omega)) _ | refine Below.drew ?_ | refine Below.setCell ?_ (by first | omega | (simp; done) | (simp; omega)) _ | refine Below.trans ?_ (Below.mono (by assumption) (by first | omega | (simp; done) | (simp; omega))))))) (hd.below (by (repeat (first | exact Below.refl _ _ | refine Below.alloc ?_ (by first | omega | (simp; done) | (simp; omega)) _ | refine Below.drew ?_ | refine Below.setCell ?_ (by first | omega | (simp; done) | (simp; omega)) _ | refine Below.trans ?_ (Below.mono (by assumption) (by first | omega | (simp; done) | (simp; omega))))))) lk ld).mono ?_; rintro e w1 ⟨rfl, hb1⟩; obtain ⟨hc1, hf1, hz1⟩ := bcell hb1; (try simp at hz1); (try (have hy0 : w.heap.size < w1.heap.size := by omega)); (try (have hy1 : w.heap.size + 1 < w1.heap.size := by omega)); (try (have hy2 : w.heap.size + 2 < w1.heap.size := by omega)))
      | (go_at_call 73; refine (lossFault_any s wo ak ks ck ad ds cd al lost cl _ (hk.below (by (repeat (first | exact Below.refl _ _ | refine Below.alloc ?_ (by first | omega | (simp; done) | (simp; omega)) _ | refine Below.drew ?_ | refine Below.setCell ?_ (by first | omega | (simp; done) | (simp; omega)) _ | refine Below.trans ?_ (Below.mono (by assumption) (by first | omega | (simp; done) | (simp; omega))))))) (hd.below (by (repeat (first | exact Below.refl _ _ | refine Below.alloc ?_ (by first | omega | (simp; done) | (simp; omega)) _ | refine Below.drew ?_ | refine Below.setCell ?_ (by first | omega | (simp; done) | (simp; omega)) _ | refine Below.trans ?_ (Below.mono (by assumption) (by first | omega | (simp; done) | (simp; omega))))))) lk ld (hl.below (by (repeat (first | exact Below.refl _ _ | refine Below.alloc ?_ (by first | omega | (simp; done) | (simp; omega)) _ | refine Below.drew ?_ | refine Below.setCell ?_ (by first | omega | (simp; done) | (simp; omega)) _ | refine Below.trans ?_ (Below.mono (by assumption) (by first | omega | (simp; done) | (simp; omega))))))) ll).mono ?_; rintro e w2 ⟨rfl, hb2⟩))
    go_ret
    rw [Hr.out]
    exact ⟨rfl, by (repeat (first | exact Below.refl _ _ | refine Below.alloc ?_ (by first | omega | (simp; done) | (simp; omega)) _ | refine Below.drew ?_ | refine Below.setCell ?_ (by first | omega | (simp; done) | (simp; omega)) _ | refine Below.trans ?_ (Below.mono (by assumption) (by first | omega | (simp; done) | (simp; omega)))))⟩
  · have Hr : Hid (lossErr s wo ks ds lost = bookErr s wo ks ds) := Lib.hid (if_pos hb)
    obtain ⟨E, hE⟩ : ∃ E, bookErr s wo ks ds = E := ⟨_, rfl⟩
    have hne : (E != 0) = true := by rw [hE] at hb; simpa using hb
    have HE := Lib.hid hE
    clear hb hE
    go_enter Try.func31, Try.ntmps31
    go_wp2_with (go_at_call 22; refine (fault_eq s wo ak ks ck ad ds cd E HE _ (hk.below (by (repeat (first | exact Below.refl _ _ | refine Below.alloc ?_ (by first | omega | (simp; done) | (simp; omega)) _ | refine Below.drew ?_ | refine Below.setCell ?_ (by first | omega | (simp; done) | (simp; omega)) _ | refine Below.trans ?_ (Below.mono (by assumption) (by first | omega | (simp; done) | (simp; omega))))))) (hd.below (by (repeat (first | exact Below.refl _ _ | refine Below.alloc ?_ (by first | omega | (simp; done) | (simp; omega)) _ | refine Below.drew ?_ | refine Below.setCell ?_ (by first | omega | (simp; done) | (simp; omega)) _ | refine Below.trans ?_ (Below.mono (by assumption) (by first | omega | (simp; done) | (simp; omega))))))) lk ld).mono ?_; rintro e w1 ⟨rfl, hb1⟩; obtain ⟨hc1, hf1, hz1⟩ := bcell hb1; (try simp at hz1); (try (have hy0 : w.heap.size < w1.heap.size := by omega)); (try (have hy1 : w.heap.size + 1 < w1.heap.size := by omega)); (try (have hy2 : w.heap.size + 2 < w1.heap.size := by omega)))
    go_ret
    rw [Hr.out, HE.out]
    exact ⟨rfl, by (repeat (first | exact Below.refl _ _ | refine Below.alloc ?_ (by first | omega | (simp; done) | (simp; omega)) _ | refine Below.drew ?_ | refine Below.setCell ?_ (by first | omega | (simp; done) | (simp; omega)) _ | refine Below.trans ?_ (Below.mono (by assumption) (by first | omega | (simp; done) | (simp; omega)))))⟩

def hadB (lost : List (Int × Int)) (key day : Int) : Bool := lost.any fun x => x.1 == key && decide (x.2 ≤ day)
set_option maxHeartbeats 2000000 in
theorem refHad_any (al : Option Addr) (lost : List (Int × Int)) (cl : Nat) (key day : Int) (w : World) (hl : Recs2At w al lost) (ll : lost.length ≤ 1000) :
    Calls Try.prog 74 #[.slice al lost.length cl, .int .i64 key, .int .i64 day] w fun e w' => e = .returned (.bool (hadB lost key day)) ∧ w = w' := by
  go_enter Try.func74, Try.ntmps74
  go_wp2
  go_loop [7] (fun i => ∃ k : Nat, k ≤ lost.length ∧ i = .int .i64 k ∧ (lost.take k).any (fun x => x.1 == key && decide (x.2 ≤ day)) = false) (fun i => lost.length - (intOf i).toNat)
  case atStart => exact ⟨0, Nat.zero_le _, rfl, rfl⟩
  case round =>
    obtain ⟨k, hkk, rfl, hno⟩ := hrel
    have Hno := Lib.hid hno
    clear hno
    by_cases hlt : k < lost.length
    · obtain ⟨b, off, rfl, hbl, c0, c1⟩ := hl k hlt
      have hltI : (k : Int) < (lost.length : Int) := by omega
      obtain ⟨⟨x, y⟩, hx⟩ : ∃ x, lost[k] = x := ⟨_, rfl⟩
      rw [hx] at c0 c1
      simp only at c0 c1
      have Hx := Lib.hid hx
      clear hx
      cases h1 : (x == key)
      · have Hr := Lib.hid (any_take_succ (p := fun x => x.1 == key && decide (x.2 ≤ day)) hlt Hno.out (by rw [Hx.out]; simp [h1]))
        go_wp2
        go_round
        case rel => exact ⟨k + 1, by omega, by go_num, Hr.out⟩
        case measure => simp [intOf]; omega
      · by_cases h2 : y ≤ day
        · have Hr : Hid (hadB lost key day = true) := Lib.hid (any_true_at hlt (by rw [Hx.out]; simp [h1, h2]))
          have d2 : decide (y ≤ day) = true := by simpa using h2
          go_wp2
          go_ret
          rw [Hr.out]
          exact ⟨rfl, rfl⟩
        · have Hr := Lib.hid (any_take_succ (p := fun x => x.1 == key && decide (x.2 ≤ day)) hlt Hno.out (by rw [Hx.out]; simp; omega))
          have d2 : decide (y ≤ day) = false := by simpa using h2
          go_wp2
          go_round
          case rel => exact ⟨k + 1, by omega, by go_num, Hr.out⟩
          case measure => simp [intOf]; omega
    · have Hr : Hid (hadB lost key day = false) := Lib.hid (any_false_of_take (by omega) Hno.out)
      go_wp2
      go_ret
      rw [Hr.out]
      exact ⟨rfl, rfl⟩
end Go.Proofs.Ytmplgcefhpobgaa

namespace Go.Proofs.Ytmplgcefhpobgaa
set_option linter.unusedVariables false
set_option linter.unusedSimpArgs false
set_option linter.unnecessarySimpa false
open Go.RowKit Go.Flow

theorem hadStep_b (key f : Int) (l : Int × Int) (N : Int) (hf : f = -1 ∨ (0 ≤ f ∧ f ≤ N)) (hl : 0 ≤ l.2 ∧ l.2 ≤ N) : hadStep key f l = -1 ∨ (0 ≤ hadStep key f l ∧ hadStep key f l ≤ N) := by
  unfold hadStep
  split
  · exact .inr hl
  · exact hf
theorem hadN_foldB (key N : Int) : ∀ (l : List (Int × Int)) (f : Int), (f = -1 ∨ (0 ≤ f ∧ f ≤ N)) → (∀ x ∈ l, 0 ≤ x.2 ∧ x.2 ≤ N) → l.foldl (hadStep key) f = -1 ∨ (0 ≤ l.foldl (hadStep key) f ∧ l.foldl (hadStep key) f ≤ N)
  | [], f, hf, _ => hf
  | x :: l, f, hf, h => hadN_foldB key N l _ (hadStep_b key f x N hf (h x (List.mem_cons_self ..))) (fun y hy => h y (List.mem_cons_of_mem _ hy))
theorem hadN_b {l : List (Int × Int)} {key N : Int} (h : ∀ x ∈ l, 0 ≤ x.2 ∧ x.2 ≤ N) : hadN l key = -1 ∨ (0 ≤ hadN l key ∧ hadN l key ≤ N) := hadN_foldB key N l (-1) (.inl rfl) h
theorem hadB_fold (key day : Int) : ∀ (l : List (Int × Int)) (f : Int), (f = -1 ∨ 0 ≤ f) → (∀ x ∈ l, 0 ≤ x.2) →
    ((l.any fun x => x.1 == key && decide (x.2 ≤ day)) = true ∨ (f ≠ -1 ∧ f ≤ day) ↔ l.foldl (hadStep key) f ≠ -1 ∧ l.foldl (hadStep key) f ≤ day)
  | [], f, _, _ => by simp
  | x :: l, f, hf, h => by
    have hx := h x (List.mem_cons_self ..)
    have hs : hadStep key f x = -1 ∨ 0 ≤ hadStep key f x := by
      unfold hadStep; split
      · exact .inr hx
      · exact hf
    rw [List.foldl_cons, ← hadB_fold key day l _ hs (fun y hy => h y (List.mem_cons_of_mem _ hy)), List.any_cons]
    unfold hadStep
    simp only [Bool.or_eq_true, Bool.and_eq_true, beq_iff_eq, decide_eq_true_eq]
    by_cases h1 : x.1 = key
    · by_cases h2 : f = -1 ∨ x.2 < f
      · rw [if_pos (by simpa [h1] using h2)]
        constructor
        · rintro ((h3 | h3) | h3)
          · right; omega
          · left; exact h3
          · right; omega
        · rintro (h3 | h3)
          · left; right; exact h3
          · left; left; exact ⟨h1, h3.2⟩
      · rw [if_neg (by simpa [h1] using h2)]
        constructor
        · rintro ((h3 | h3) | h3)
          · right; omega
          · left; exact h3
          · right; exact h3
        · rintro (h3 | h3)
          · left; right; exact h3
          · right; exact h3
    · rw [if_neg (by simp [h1])]
      constructor
      · rintro ((h3 | h3) | h3)
        · exact absurd h3.1 h1
        · left; exact h3
        · right; exact h3
      · rintro (h3 | h3)
        · left; right; exact h3
        · right; exact h3
theorem hadB_iff {l : List (Int × Int)} {key day : Int} (h : ∀ x ∈ l, 0 ≤ x.2) : hadB l key day = true ↔ hadN l key ≠ -1 ∧ hadN l key ≤ day := by
  have := hadB_fold key day l (-1) (.inl rfl) h
  unfold hadB hadN
  rw [← this]
  simp

/-- what the inner loop has when the days above e are over -/
def fromE (f : Int) (N e : Int) : Int := if f = -1 ∨ N < max f (e + 1) then -1 else max f (e + 1)

set_option maxRecDepth 100000 in
set_option maxHeartbeats 4000000 in
theorem refExposed_any (s wo : Int) (ak : Option Addr) (ks : List (Int × Int × Int)) (ck : Nat) (ad : Option Addr) (ds : List Int) (cd : Nat) (al : Option Addr) (lost : List (Int × Int)) (cl : Nat) (w : World) (hk : Recs3At w ak ks) (hd : IntsAt w ad ds) (lk : ks.length ≤ 1000) (ld : ds.length ≤ 1000) (hl : Recs2At w al lost) (ll : lost.length ≤ 1000) (hok : lossErr s wo ks ds lost = 0) :
    Calls Try.prog 32 #[.agg #[.int .i64 s, .int .i64 wo, .slice ak ks.length ck, .slice ad ds.length cd], .slice al lost.length cl] w fun e w' => (∃ a c, e = .returned (.slice a (expRes ds lost).length c) ∧ IntsAt w' a (expRes ds lost)) ∧ Below w.heap.size w w' := by
  obtain ⟨hbk, _, hlo⟩ := lossErr_ok hok
  obtain ⟨lk5, ld8, _⟩ := bookErr_ok hbk
  have hlB : ∀ x ∈ lost, 0 ≤ x.2 ∧ x.2 ≤ (ds.length : Int) - 1 := fun x hx => by have := List.all_eq_true.1 hlo x hx; simp [lossOk, ownOk] at this; omega
  obtain ⟨F, hF⟩ : ∃ F : Nat → Int, (fun i : Nat => fromN lost (ds.getD i 0) i) = F := ⟨_, rfl⟩
  have HF : Hid (∀ (k : Nat) (h : k < ds.length), fromN lost ds[k] k = F k) := Lib.hid (fun k h => by rw [← hF]; simp [h])
  have hres : expRes ds lost = upTo F ds.length := by unfold expRes; rw [hF]
  have Hres := Lib.hid hres
  have HlB := Lib.hid hlB
  clear hres hF hok hbk hlo hlB
  go_enter Try.func32, Try.ntmps32
  go_wp2
  obtain ⟨W0, hW0⟩ : ∃ x : World, x = w.alloc (.cells #[.int .i64 s, .int .i64 wo, .slice ak ks.length ck, .slice ad ds.length cd] 25) := ⟨_, rfl⟩
  have hb0 : Below w.heap.size w W0 := by rw [hW0]; (repeat (first | exact Below.refl _ _ | refine Below.alloc ?_ (by first | omega | (simp; done) | (simp; omega)) _ | refine Below.drew ?_ | refine Below.setCell ?_ (by first | omega | (simp; done) | (simp; omega)) _ | refine Below.trans ?_ (Below.mono (by assumption) (by first | omega | (simp; done) | (simp; omega)))))
  have hB0 : BookAt W0 w.heap.size s wo ak ks.length ck ad ds.length cd := by rw [hW0]; exact BookAt.new _ _ _ _ _ _ _ _ _ _
  rw [← hW0]
  clear hW0
  go_loopw [5, 6, 7, 8] (fun v i _ _ wr => ∃ (k : Nat) (a' : Option Addr) (c' : Nat), k ≤ ds.length ∧ i = .int .i64 k ∧ v = .slice a' k c' ∧ OwnL 3 1 W0.heap.size wr a' c' k ((upTo F k).map (Value.int .i64)) ∧ Below W0.heap.size W0 wr) (fun _ i _ _ _ => ds.length - (intOf i).toNat)
  case atStart => exact ⟨0, none, 0, Nat.zero_le _, rfl, rfl, OwnL.nil _ _ _ _, Below.refl _ _⟩
  case round =>
    obtain ⟨k, a', c', hkk, rfl, rfl, hown, hbr⟩ := hrel
    have hwr := hb0.trans (hbr.mono hb0.size)
    obtain ⟨q0, q1, q2, q3⟩ := hB0.below hbr
    have lB := cell_lt q0
    simp only at lB
    have hzr := hbr.size
    by_cases hlt : k < ds.length
    · obtain ⟨b, off, rfl, hbl, hc⟩ := (hd.below hwr) k hlt
      have hc' : wr.cell? ⟨b, off + k, none⟩ = some (.int .i64 ds[k]) := hc.trans (by simp [hlt])
      have HFk := Lib.hid (HF.out k hlt)
      obtain ⟨key, hkey⟩ : ∃ key, ds[k] = key := ⟨_, rfl⟩
      rw [hkey] at hc' HFk
      have hhb := hadN_b (l := lost) (key := key) (N := (ds.length : Int) - 1) HlB.out
      have hiff : ∀ e : Int, hadB lost key e = true ↔ hadN lost key ≠ -1 ∧ hadN lost key ≤ e := fun e => hadB_iff (fun x hx => (HlB.out x hx).1)
      obtain ⟨f, hf⟩ : ∃ f, hadN lost key = f := ⟨_, rfl⟩
      rw [hf] at hhb hiff
      have hFk : F k = if f = -1 then -1 else max f k := by rw [← HFk.out]; unfold fromN; rw [hf]
      have HFk2 := Lib.hid hFk
      have Hhb := Lib.hid hhb
      have Hiff := Lib.hid hiff
      clear hc hkey hf hhb hiff hFk
      go_wp2
      obtain ⟨w1, hw1⟩ : ∃ x : World, x = wr := ⟨_, rfl⟩
      subst hw1
      go_loop [7, 8] (fun v d => ∃ e : Int, (k : Int) - 1 ≤ e ∧ e ≤ (ds.length : Int) - 1 ∧ d = .int .i64 e ∧ v = .int .i64 (fromE f ((ds.length : Int) - 1) e)) (fun _ d => (intOf d + 1).toNat)
      case atStart => exact ⟨(ds.length : Int) - 1, by omega, by omega, rfl, by unfold fromE; rw [if_pos (by omega)]⟩
      case round =>
        obtain ⟨e, he0, he1, rfl, rfl⟩ := hrel
        by_cases hke : (k : Int) ≤ e
        · have hx := Hiff.out e
          cases hhad : hadB lost key e
          · have hstp : fromE f ((ds.length : Int) - 1) (e - 1) = fromE f ((ds.length : Int) - 1) e := by
              have hno : ¬ (f ≠ -1 ∧ f ≤ e) := fun h => by rw [hx.2 h] at hhad; cases hhad
              have := Hhb.out
              unfold fromE
              by_cases hf1 : f = -1
              · rw [if_pos (.inl hf1), if_pos (.inl hf1)]
              · have : max f (e - 1 + 1) = max f (e + 1) := by omega
                rw [this]
            have Hstp := Lib.hid hstp
            have HH := Lib.hid hhad
            clear hx hhad hstp
            have hcall : ∀ W, Recs2At W al lost → Calls Try.prog 74 #[.slice al lost.length cl, .int .i64 key, .int .i64 e] W fun r w' => r = .returned (.bool false) ∧ W = w' := fun W hW => by rw [← HH.out]; exact refHad_any al lost cl key e W hW ll
            go_wp2_with (go_at_call 74; refine (hcall _ (hl.below hwr)).mono ?_; rintro r _ ⟨rfl, rfl⟩)
            go_round
            case rel => exact ⟨e - 1, by omega, by omega, rfl, by rw [Hstp.out]⟩
            case measure => simp [intOf]; omega
          · have hstp : fromE f ((ds.length : Int) - 1) (e - 1) = e := by
              have h1 := hx.1 hhad
              unfold fromE
              have : max f (e - 1 + 1) = e := by omega
              rw [this, if_neg (by omega)]
            have Hstp := Lib.hid hstp
            have HH := Lib.hid hhad
            clear hx hhad hstp
            have hcall : ∀ W, Recs2At W al lost → Calls Try.prog 74 #[.slice al lost.length cl, .int .i64 key, .int .i64 e] W fun r w' => r = .returned (.bool true) ∧ W = w' := fun W hW => by rw [← HH.out]; exact refHad_any al lost cl key e W hW ll
            go_wp2_with (go_at_call 74; refine (hcall _ (hl.below hwr)).mono ?_; rintro r _ ⟨rfl, rfl⟩)
            go_round
            case rel => exact ⟨e - 1, by omega, by omega, rfl, by rw [Hstp.out]⟩
            case measure => simp [intOf]; omega
        · obtain rfl : e = (k : Int) - 1 := by omega
          have hfin : fromE f ((ds.length : Int) - 1) ((k : Int) - 1) = F k := by
            have := Hhb.out
            rw [HFk2.out]
            unfold fromE
            by_cases hf1 : f = -1
            · rw [if_pos (.inl hf1), if_pos hf1]
            · have e2 : max f ((k : Int) - 1 + 1) = max f k := by omega
              rw [e2, if_neg (by omega), if_neg hf1]
          rw [hfin]
          clear hfin
          go_wp2_with (at_builtin; refine wpList_app_lit elInt rfl _ _ rfl W0.heap.size a' k c' _ rfl hown 1 1 rfl rfl (fun u hu => ?c1) ?c2 ?c3 ?c4 ?_)
          case c1 => simp at hu; subst hu; rfl
          case c2 => unfold maxLen; omega
          case c3 => omega
          intro a2 c2 w2 hown2 hb2
          go_wp2
          go_roundw
          case rel => exact ⟨k + 1, a2, c2, by omega, by go_num, rfl, by rw [upTo_succ, List.map_append]; exact hown2, hbr.trans hb2⟩
          case measure => simp [intOf]; omega
    · obtain rfl : k = ds.length := by omega
      go_wp2
      go_ret
      rw [Hres.out]
      exact ⟨⟨a', c', by rw [upTo_len]; rfl, hown.ints.1⟩, hwr⟩
end Go.Proofs.Ytmplgcefhpobgaa
