/- cipher: the reference's Code -/
import Derived.Test.YtmplgcefhpobgaaDf
namespace Go.Proofs.Ytmplgcefhpobgaa
set_option linter.unusedVariables false
set_option linter.unusedSimpArgs false
set_option linter.unnecessarySimpa false
open Go.RowKit Go.Flow

theorem codeErr_ok {s wo : Int} {ks : List K3} {ds : List Int} {day : Int} {plain : List Int} (h : codeErr s wo ks ds day plain = 0) :
    bookErr s wo ks ds = 0 ∧ (0 ≤ day ∧ day < (ds.length : Int)) ∧ plain.length ≤ 10 ∧ plain.all (plainOk s) = true := by
  unfold codeErr at h
  split at h
  · omega
  · rename_i h1
    split at h
    · omega
    · split at h
      · omega
      · split at h
        · omega
        · rename_i h2 h3 h4
          exact ⟨by omega, by omega, by omega, by simpa using h4⟩

set_option maxRecDepth 100000 in
set_option maxHeartbeats 4000000 in
theorem refCode_any (s wo : Int) (ak : Option Addr) (ks : List (Int × Int × Int)) (ck : Nat) (ad : Option Addr) (ds : List Int) (cd : Nat) (day : Int) (ap : Option Addr) (plain : List Int) (cp : Nat) (w : World) (hk : Recs3At w ak ks) (hd : IntsAt w ad ds) (lk : ks.length ≤ 1000) (ld : ds.length ≤ 1000) (hp : IntsAt w ap plain) (hok : codeErr s wo ks ds day plain = 0) :
    Calls Try.prog 26 #[.agg #[.int .i64 s, .int .i64 wo, .slice ak ks.length ck, .slice ad ds.length cd], .int .i64 day, .slice ap plain.length cp] w fun e w' =>
      (∃ a c, e = .returned (.slice a (codeRes s ks ds day plain).length c) ∧ IntsAt w' a (codeRes s ks ds day plain)) ∧ Below w.heap.size w w' := by
  obtain ⟨hbk, hday, hpl, hpa⟩ := codeErr_ok hok
  obtain ⟨lk5, ld8, s0, s1, _, _, _, k0, d0, hka, hda⟩ := bookErr_ok hbk
  obtain ⟨d, rfl⟩ := Int.eq_ofNat_of_zero_le hday.1
  have hdl : d < ds.length := by omega
  have hdm := List.all_eq_true.1 hda ds[d] (List.getElem_mem hdl)
  obtain ⟨kk, hkk⟩ : ∃ kk : Nat, ds[d] = (kk : Int) := ⟨ds[d].toNat, by simp [ownOk] at hdm; omega⟩
  have hkl : kk < ks.length := by simp [ownOk] at hdm; omega
  have hko := List.all_eq_true.1 hka ks[kk] (List.getElem_mem hkl)
  have hkv : keyAt ks ds (d : Int) = ks[kk] := by simp [keyAt, hdl, hkk, hkl]
  have hiv : indN ks ds (d : Int) = (ds[d] + (d : Int)) % ks.length := by simp [indN, hdl]
  have hdB : ∀ x ∈ ds, 0 ≤ x ∧ x ≤ 1000 := fun x hx => by have := List.all_eq_true.1 hda x hx; simp [ownOk] at this; omega
  have hplB : ∀ (j : Nat) (h : j < plain.length), 0 ≤ plain[j] ∧ plain[j] ≤ 1000 := fun j h => by have := List.all_eq_true.1 hpa plain[j] (List.getElem_mem h); simp [plainOk] at this; omega
  obtain ⟨⟨m, a, st⟩, hkey⟩ : ∃ q : Int × Int × Int, ks[kk] = q := ⟨_, rfl⟩
  have hkb : 1 ≤ m ∧ m ≤ s - 1 ∧ 0 ≤ a ∧ a ≤ s - 1 ∧ 0 ≤ st ∧ st ≤ s - 1 := by rw [hkey] at hko; simp [keyOk] at hko; omega
  obtain ⟨z0, hz0⟩ : ∃ z, indN ks ds (d : Int) = z := ⟨_, rfl⟩
  have hz1 : 0 ≤ z0 ∧ z0 ≤ 1000 := by rw [← hz0, hiv]; exact ⟨Int.emod_nonneg _ (by omega), by have := Int.emod_lt_of_pos (ds[d] + (d : Int)) (show (0 : Int) < ks.length by omega); omega⟩
  obtain ⟨F, hF⟩ : ∃ F : Nat → Int, (fun i : Nat => codeN s m a st (plain.getD i 0) i) = F := ⟨_, rfl⟩
  have hFi : ∀ (j : Nat) (h : j < plain.length), codeN s m a st plain[j] j = F j := fun j h => by rw [← hF]; simp [h]
  have hFb : ∀ j, 0 ≤ F j ∧ F j ≤ 1000 := fun j => by
    rw [← hF]; have := codeN_b (s := s) (m := m) (a := a) (st := st) (n := plain.getD j 0) (i := (j : Int)) (by omega); simp only; omega
  have hres : codeRes s ks ds d plain = (z0 :: upTo F plain.length) ++ [checkN s (z0 :: upTo F plain.length)] := by
    unfold codeRes codesN
    rw [hkv, hkey, hz0]
    simp only [hF]
  have Hres := Lib.hid hres
  have hdI : (d : Int) < (ds.length : Int) := by omega
  have hkI : (kk : Int) < (ks.length : Int) := by omega
  have hind : ∀ W, Below w.heap.size w W → Calls Try.prog 63 #[.agg #[.int .i64 s, .int .i64 wo, .slice ak ks.length ck, .slice ad ds.length cd], .int .i64 d] W fun e w' => e = .returned (.int .i64 z0) ∧ Below W.heap.size W w' := fun W hW => by
    have := refIndicator_any s wo ak ks ck ad ds cd d W (hk.below hW) (hd.below hW) lk ld hdl k0 hdB
    rwa [← hiv, hz0] at this
  have Hkk := Lib.hid hkk
  have Hkey := Lib.hid hkey
  have HFi := Lib.hid hFi
  have HFb := Lib.hid hFb
  clear hres hkv hiv hdm hkk hko hkey hok hbk hka hda hpa hz0 hF hFi hFb
  go_enter Try.func26, Try.ntmps26
  go_wp2_with (go_at_call 63; refine (hind _ (by (repeat (first | exact Below.refl _ _ | refine Below.alloc ?_ (by first | omega | (simp; done) | (simp; omega)) _ | refine Below.drew ?_ | refine Below.setCell ?_ (by first | omega | (simp; done) | (simp; omega)) _ | refine Below.trans ?_ (Below.mono (by assumption) (by first | omega | (simp; done) | (simp; omega))))))).mono ?_; rintro e w1 ⟨rfl, hb1⟩)
  have hw1 : Below w.heap.size w w1 := by (repeat (first | exact Below.refl _ _ | refine Below.alloc ?_ (by first | omega | (simp; done) | (simp; omega)) _ | refine Below.drew ?_ | refine Below.setCell ?_ (by first | omega | (simp; done) | (simp; omega)) _ | refine Below.trans ?_ (Below.mono (by assumption) (by first | omega | (simp; done) | (simp; omega)))))
  have hb1' : Below (w.heap.size + 1) (w.alloc (.cells #[.int .i64 s, .int .i64 wo, .slice ak ks.length ck, .slice ad ds.length cd] 25)) w1 := hb1.mono (by simp)
  have o1 := OwnL.lit (E := 3) (size := 1) (base := w.heap.size + 1) (n := 1) (w := w1) #[.int .i64 z0] (by have := hb1'.size; simp at this; omega) (by decide) rfl
  have b2 : Below (w.heap.size + 1) (w.alloc (.cells #[.int .i64 s, .int .i64 wo, .slice ak ks.length ck, .slice ad ds.length cd] 25)) (w1.alloc (.cells #[.int .i64 z0] 3)) := hb1'.alloc (by have := hb1'.size; simp at this; omega) _
  obtain ⟨w2, hw2⟩ : ∃ x : World, x = w1.alloc (.cells #[.int .i64 z0] 3) := ⟨_, rfl⟩
  rw [← hw2] at o1 b2 ⊢
  clear hw2 hind
  go_loopw [7, 8] (fun v i wr => ∃ (k : Nat) (a' : Option Addr) (c' : Nat), k ≤ plain.length ∧ i = .int .i64 k ∧ v = .slice a' (1 + k) c' ∧ OwnL 3 1 (w.heap.size + 1) wr a' c' (1 + k) ((z0 :: upTo F k).map (Value.int .i64)) ∧
      Below (w.heap.size + 1) (w.alloc (.cells #[.int .i64 s, .int .i64 wo, .slice ak ks.length ck, .slice ad ds.length cd] 25)) wr) (fun _ i _ => plain.length - (intOf i).toNat)
  case atStart => exact ⟨0, _, _, Nat.zero_le _, rfl, rfl, o1, b2⟩
  case round =>
    obtain ⟨k, a', c', hkk', rfl, rfl, hown, hbr⟩ := hrel
    have hwr : Below w.heap.size w wr := Below.trans (by (repeat (first | exact Below.refl _ _ | refine Below.alloc ?_ (by first | omega | (simp; done) | (simp; omega)) _ | refine Below.drew ?_ | refine Below.setCell ?_ (by first | omega | (simp; done) | (simp; omega)) _ | refine Below.trans ?_ (Below.mono (by assumption) (by first | omega | (simp; done) | (simp; omega)))))) (hbr.mono (by omega))
    have hB := BookAt.of hbr
    have hz := hB.lt
    obtain ⟨q0, q1, q2, q3⟩ := hB
    by_cases hlt : k < plain.length
    · obtain ⟨b, off, rfl, hbl, c0⟩ := (hp.below hwr) k hlt
      obtain ⟨bd, offd, rfl, hbd, cd0⟩ := (hd.below hwr) d hdl
      obtain ⟨bk, offk, rfl, hbk, ck0, ck1, ck2⟩ := (hk.below hwr) kk hkl
      rw [Hkey.out] at ck0 ck1 ck2
      simp only at ck0 ck1 ck2
      have hx := hplB k hlt
      have HFk := Lib.hid (HFi.out k hlt)
      have c0' : wr.cell? ⟨b, off + k, none⟩ = some (.int .i64 plain[k]) := c0.trans (by simp [hlt])
      have cd0' : wr.cell? ⟨bd, offd + d, none⟩ = some (.int .i64 kk) := cd0.trans (by rw [← Hkk.out]; simp [hdl])
      obtain ⟨x, hxe⟩ : ∃ x, plain[k] = x := ⟨_, rfl⟩
      rw [hxe] at c0' hx HFk
      have hltI : (k : Int) < (plain.length : Int) := by omega
      clear c0 cd0 hxe
      have hcode : ∀ W, Calls Try.prog 64 #[.agg #[.int .i64 s, .int .i64 wo, .slice (some ⟨bk, offk, none⟩) ks.length ck, .slice (some ⟨bd, offd, none⟩) ds.length cd], .agg #[.int .i64 m, .int .i64 a, .int .i64 st], .int .i64 x, .int .i64 k] W fun e w' => e = .returned (.int .i64 (F k)) ∧ Below W.heap.size W w' := fun W => by
        have := codeOf_any s wo m a st x k (.slice (some ⟨bk, offk, none⟩) ks.length ck) (.slice (some ⟨bd, offd, none⟩) ds.length cd) W (by omega) (by omega) (by omega) (by omega) (by omega) (by omega) (by omega) (by omega) (by omega) (by omega) (by omega) (by omega)
        rwa [HFk.out] at this
      go_wp2
      (refine wp_region_seq 18 [] [18, 19] 44 [true, true, true, true, true, true, true, true, true, true, true, true, true, true, true, true, true, false] [LitV (w.heap.size + 1) 1 #[.int .i64 (F k)] 3] (by kernel_rfl) (by kernel_rfl) rfl (mono_cons (fun v w w' h hb => h.kept hb) mono_nil) ?_; simp only [pickOps, List.filterMap_cons, List.filterMap_nil, List.getElem?_toArray, List.getElem?_cons_succ, List.getElem?_cons_zero]; (repeat (refine wpFl_step _ rfl (fun w => (by go_simp; rfl)) ?_)); refine wpFl_nil ?_; simp only [maskOps, dummy, Act.put, List.setIfInBounds_toArray, List.set_cons_zero, List.set_cons_succ, List.take_succ_cons, List.take_zero, List.drop_succ_cons, List.drop_zero]; (repeat (refine wpQB_step (fun K hK => ?_); go_simp; first | (refine hK _ ?_; clear hK K) | (apply Exists.intro; refine ⟨fun ex => ?_, hK _ ?_⟩; ((go_at_call 64; exact hcode _)); clear hK K))); refine wpQB_nil ?_; simp only [relObl2, under, relEnd, and_true, List.nil_append, List.cons_append])
      exact ⟨fun e => by go_simp; exact ⟨(Below.refl _ _).alloc (Nat.le_refl _) _, e.to.heap.size, rfl, by have := e.size; omega, Cells.new _ _ _⟩, fun e => by
          rintro v1 ⟨gg, rfl, hg1, hgg⟩
          simp only [Act.put, List.setIfInBounds_toArray, List.set_cons_zero, List.set_cons_succ]
          have heb := e.below
          have hez := e.size
          have hown4 := hown.kept heb
          obtain ⟨w5, hw5⟩ : ∃ x : World, x = e.to := ⟨_, rfl⟩
          rw [← hw5] at heb hez hgg hown4 ⊢
          clear hw5
          refine wpList_app elInt rfl _ _ rfl (w.heap.size + 1) a' (1 + k) c' _ rfl hown4 (some ⟨gg, 0, none⟩) 1 1 _ rfl (fun h => by cases h) rfl hgg.src (fun u hu => by simp at hu; subst hu; rfl) (by unfold maxLen; omega) (by omega) (by omega) ?_
          intro a6 c6 w6 hown6 hb6
          go_wp2
          go_roundw
          case rel => exact ⟨k + 1, a6, c6, by omega, by go_num, by rw [Nat.add_assoc], by rw [upTo_succ]; simpa [Nat.add_assoc] using hown6, (hbr.trans (heb.mono (by omega))).trans hb6⟩
          case measure => simp [intOf]; omega⟩
    · obtain rfl : k = plain.length := by omega
      have hi := hown.ints.1
      have hL : (z0 :: upTo F plain.length).length = 1 + plain.length := by simp [upTo_len]; omega
      have hLb : ∀ x ∈ z0 :: upTo F plain.length, 0 ≤ x ∧ x ≤ 1000 := by
        intro x hx
        rcases List.mem_cons.1 hx with rfl | hx
        · exact hz1
        · simp only [upTo, List.mem_map] at hx
          obtain ⟨j, _, rfl⟩ := hx
          exact HFb.out j
      obtain ⟨L, hLe⟩ : ∃ L, z0 :: upTo F plain.length = L := ⟨_, rfl⟩
      rw [hLe] at hi hL hLb hown Hres
      rw [← hL] at hown ⊢
      have hLl : L.length ≤ 1000 := by omega
      clear hLe hL
      go_wp2_with (first
        | (go_at_call 65; refine (refCheck_any s wo _ _ a' L c' _ (by omega) (by omega) hi hLl hLb).mono ?_; rintro e w3 ⟨rfl, hb3⟩)
        | (at_builtin; refine wpList_app_lit elInt rfl _ _ rfl (w.heap.size + 1) _ _ _ _ rfl (hown.kept hb3) 1 1 rfl rfl (fun u hu => ?c1) ?c2 ?c3 ?c4 ?_))
      case c1 => simp at hu; subst hu; rfl
      case c2 => unfold maxLen; omega
      case c3 => omega
      case c4 => have := hb3.size; omega
      intro a6 c6 w6 hown6 hb6
      go_wp2
      go_ret
      have own7 : OwnL 3 1 (w.heap.size + 1) w6 a6 c6 (L.length + 1) ((L ++ [checkN s L]).map (Value.int .i64)) := by simpa using hown6
      refine ⟨⟨a6, c6, ?_, ?_⟩, ?_⟩
      · rw [Hres.out]; simp
      · rw [Hres.out]; exact own7.ints.1
      · exact (hwr.trans (hb3.mono hwr.size)).trans (hb6.mono (by omega))
end Go.Proofs.Ytmplgcefhpobgaa
