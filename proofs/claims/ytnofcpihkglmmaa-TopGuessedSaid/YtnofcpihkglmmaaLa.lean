/- CipherCodes: the walk · cipher: losses and guesses converted; the error of losses; Had · cipher: the reference's Exposed -/
import Derived.Test.YtnofcpihkglmmaaDd
namespace Go.Proofs.Ytnofcpihkglmmaa
set_option linter.unusedVariables false
set_option linter.unusedSimpArgs false
set_option linter.unnecessarySimpa false
open Go.RowKit Go.Flow

theorem thin_eq (s wo : Int) (ak : Option Addr) (nk ck : Nat) (ad : Option Addr) (nd cd : Nat) (r : Bool) (h : Hid ((decide (nk ≤ 8) && decide (nd ≤ 11)) = r)) (w : World) :
    Calls Try.prog 6 #[.agg #[.int .i64 s, .int .i64 wo, .slice ak nk ck, .slice ad nd cd]] w fun e w' => e = .returned (.bool r) ∧ Below w.heap.size w w' := by
  rw [← h.out]; exact thin_any s wo ak nk ck ad nd cd w
theorem bookConv_at (s wo : Int) (ak : Option Addr) (ks : List (Int × Int × Int)) (ck : Nat) (ad : Option Addr) (ds : List Int) (cd : Nat) (w : World) (hk : Recs3At w ak ks) (hd : IntsAt w ad ds) (lk : ks.length ≤ 1000) (ld : ds.length ≤ 1000) (ln : ad = none → cd = 0) :
    Calls Try.prog 13 #[.agg #[.int .i64 s, .int .i64 wo, .slice ak ks.length ck, .slice ad ds.length cd]] w fun e w' => (∃ ak' ck' ad' cd', e = .returned (.agg #[.int .i64 s, .int .i64 wo, .slice ak' ks.length ck', .slice ad' ds.length cd']) ∧ Recs3At w' ak' ks ∧ IntsAt w' ad' ds) ∧ Below w.heap.size w w' :=
  (bookConv_any s wo ak ks ck ad ds cd w hk hd lk ld ln).mono fun _ _ ⟨h1, h2⟩ => ⟨h1.out, h2⟩
theorem list_at (a : Option Addr) (l : List Int) (c : Nat) (w : World) (hl : IntsAt w a l) (ln : l.length ≤ 1000000) (hn : a = none → c = 0) :
    Calls Try.prog 35 #[.slice a l.length c] w fun e w' => (∃ a c, e = .returned (.slice a l.length c) ∧ IntsAt w' a l ∧ (a = none → c = 0) ∧ l.length ≤ c ∧ c ≤ maxLen) ∧ Below w.heap.size w w' :=
  (list_any a l c w hl ln hn).mono fun _ _ ⟨a, c, h1, h2, h3⟩ => ⟨⟨a, c, h1, h2.ints.1, fun h => by subst h; exact h2.isnil.2, h2.fits.1, h2.fits.2⟩, h3⟩
theorem plainRef_eq (s wo : Int) (ks ds : Value) (a : Option Addr) (l : List Int) (c : Nat) (r : Bool) (h : Hid (l.all (plainOk s) = r)) (w : World) (h0 : 0 ≤ s) (h1 : s ≤ 1000) (hl : IntsAt w a l) (ll : l.length ≤ 1000) :
    Calls Try.prog 8 #[.agg #[.int .i64 s, .int .i64 wo, ks, ds], .slice a l.length c] w fun e w' => e = .returned (.bool r) ∧ Below w.heap.size w w' := by
  rw [← h.out]; exact refPlain_any s wo ks ds a l c w h0 h1 hl ll

end Go.Proofs.Ytnofcpihkglmmaa

namespace Go.Proofs.Ytnofcpihkglmmaa
set_option linter.unusedVariables false
set_option linter.unusedSimpArgs false
set_option linter.unnecessarySimpa false
open Go.RowKit Go.Flow

def flat2 (xs : List (Int × Int)) : List Value := xs.flatMap fun x => [.int .i64 x.1, .int .i64 x.2]
theorem flat2_get : ∀ (xs : List (Int × Int)) (k : Nat) (h : k < xs.length), (flat2 xs)[k * 2]? = some (.int .i64 xs[k].1) ∧ (flat2 xs)[k * 2 + 1]? = some (.int .i64 xs[k].2)
  | x :: xs, 0, _ => by simp [flat2]
  | x :: xs, k + 1, h => by
    obtain ⟨a, b⟩ := flat2_get xs k (by simpa using h)
    have e : flat2 (x :: xs) = .int .i64 x.1 :: .int .i64 x.2 :: flat2 xs := by simp [flat2]
    rw [e, show (k + 1) * 2 = k * 2 + 2 by omega]
    exact ⟨a, b⟩
theorem flat2_snoc (xs : List (Int × Int)) (x : Int × Int) : flat2 (xs ++ [x]) = flat2 xs ++ [.int .i64 x.1, .int .i64 x.2] := by simp [flat2]
theorem flat2_take (xs : List (Int × Int)) (k : Nat) (h : k < xs.length) : flat2 (xs.take (k + 1)) = flat2 (xs.take k) ++ [.int .i64 xs[k].1, .int .i64 xs[k].2] := by
  rw [List.take_succ_eq_append_getElem h, flat2_snoc]
theorem OwnL.recs2 {T : TypeId} {base : Nat} {w : World} {a : Option Addr} {c n : Nat} {xs : List (Int × Int)} (h : OwnL T 2 base w a c n (flat2 xs)) : Recs2At w a xs := fun k hk => by
  rcases h.form with ⟨_, _, _, h4⟩ | ⟨g, rfl, _, hlt, _, _, _, hc⟩
  · have := (flat2_get xs k hk).1; rw [h4] at this; simp at this
  · obtain ⟨e0, e1⟩ := flat2_get xs k hk
    exact ⟨g, 0, rfl, hlt, by rw [Nat.zero_add]; exact hc _ _ e0, by rw [Nat.zero_add]; exact hc _ _ e1⟩

theorem info_guesses : (Try.prog.info? 85).map (fun i => (i.zero, i.size, i.bytes)) = some (some (.agg #[.int .i64 0, .int .i64 0]), 2, 16) := by kernel_rfl
theorem el_guesses : Elem Try.prog 51 85 (.agg #[.int .i64 0, .int .i64 0]) 2 16 := ⟨Try.underlying51, info_parts info_guesses, rfl, by decide⟩
set_option maxRecDepth 100000 in
set_option maxHeartbeats 2000000 in
theorem guessesConv_at (al : Option Addr) (xs : List (Int × Int)) (cl : Nat) (w : World) (hx : Recs2At w al xs) (lx : xs.length ≤ 1000) :
    Calls Try.prog 14 #[.slice al xs.length cl] w fun e w' => (∃ a c, e = .returned (.slice a xs.length c) ∧ Recs2At w' a xs ∧ (a = none → c = 0)) ∧ Below w.heap.size w w' := by
  go_enter Try.func14, Try.ntmps14
  go_wp2
  go_loopw [3, 4] (fun v i wr => ∃ (k : Nat) (a' : Option Addr) (c' : Nat), k ≤ xs.length ∧ i = .int .i64 k ∧ v = .slice a' k c' ∧ OwnL 85 2 w.heap.size wr a' c' k (flat2 (xs.take k)) ∧ Below w.heap.size w wr) (fun _ i _ => xs.length - (intOf i).toNat)
  case atStart => exact ⟨0, none, 0, Nat.zero_le _, rfl, rfl, OwnL.nil _ _ _ _, Below.refl _ _⟩
  case round =>
    obtain ⟨k, a', c', hk, rfl, rfl, hown, hwr⟩ := hrel
    have hz := hwr.size
    by_cases hlt : k < xs.length
    · obtain ⟨b, off, rfl, hbl, c0, c1⟩ := (hx.below hwr) k hlt
      have hltI : (k : Int) < (xs.length : Int) := by omega
      obtain ⟨⟨x, y⟩, hxe⟩ : ∃ x, xs[k] = x := ⟨_, rfl⟩
      rw [hxe] at c0 c1
      simp only at c0 c1
      have Hx := Lib.hid hxe
      clear hxe
      go_wp2
      (refine wp_region_seq 13 [] [13, 14] 26 [true, true, true, true, true, true, true, true, true, true, true, true, false] [LitV w.heap.size 1 #[.int .i64 x, .int .i64 y] 85] (by kernel_rfl) (by kernel_rfl) rfl (mono_cons (fun v w w' h hb => h.kept hb) mono_nil) ?_; simp only [pickOps, List.filterMap_cons, List.filterMap_nil, List.getElem?_toArray, List.getElem?_cons_succ, List.getElem?_cons_zero]; (repeat (refine wpFl_step _ rfl (fun w => (by go_simp; rfl)) ?_)); refine wpFl_nil ?_; simp only [maskOps, dummy, Act.put, List.setIfInBounds_toArray, List.set_cons_zero, List.set_cons_succ, List.take_succ_cons, List.take_zero, List.drop_succ_cons, List.drop_zero]; (repeat (refine wpQB_step (fun K hK => ?_); go_simp; first | (refine hK _ ?_; clear hK K) | (apply Exists.intro; refine ⟨fun ex => ?_, hK _ ?_⟩; (fail); clear hK K))); refine wpQB_nil ?_; simp only [relObl2, under, relEnd, and_true, List.nil_append, List.cons_append])
      exact ⟨fun e => by go_simp; exact ⟨(Below.refl _ _).alloc (Nat.le_refl _) _, e.to.heap.size, rfl, by have := e.size; omega, Cells.new _ _ _⟩, fun e => by
          rintro v1 ⟨gg, rfl, hg1, hgg⟩
          simp only [Act.put, List.setIfInBounds_toArray, List.set_cons_zero, List.set_cons_succ]
          have heb := e.below
          have hez := e.size
          have hown4 := hown.kept heb
          obtain ⟨w5, hw5⟩ : ∃ x : World, x = e.to := ⟨_, rfl⟩
          rw [← hw5] at heb hez hgg hown4 ⊢
          clear hw5
          refine wpList_app el_guesses rfl _ _ rfl w.heap.size a' k c' _ rfl hown4 (some ⟨gg, 0, none⟩) 1 1 _ rfl (fun h => by cases h) rfl hgg.src (fun u hu => by simp at hu; rcases hu with rfl | rfl <;> rfl) (by unfold maxLen; omega) (by omega) (by omega) ?_
          intro a6 c6 w6 hown6 hb6
          go_wp2
          go_roundw
          case rel => exact ⟨k + 1, a6, c6, by omega, by go_num, rfl, by rw [flat2_take xs k hlt, Hx.out]; exact hown6, (hwr.trans (heb.mono (by omega))).trans hb6⟩
          case measure => simp [intOf]; omega⟩
    · obtain rfl : k = xs.length := by omega
      rw [List.take_length] at hown
      go_wp2
      go_ret
      exact ⟨⟨a', c', rfl, hown.recs2, fun h => by subst h; exact hown.isnil.2⟩, hwr⟩

end Go.Proofs.Ytnofcpihkglmmaa

namespace Go.Proofs.Ytnofcpihkglmmaa
set_option linter.unusedVariables false
set_option linter.unusedSimpArgs false
set_option linter.unnecessarySimpa false
open Go.RowKit Go.Flow

end Go.Proofs.Ytnofcpihkglmmaa
