/- cipher: Decode -/
import Derived.Test.YtmplgcefhpobgaaCh
namespace Go.Proofs.Ytmplgcefhpobgaa
set_option linter.unusedVariables false
set_option linter.unusedSimpArgs false
set_option linter.unnecessarySimpa false
open Go.RowKit Go.Flow

def decodeErr (s wo : Int) (ks : List (Int × Int × Int)) (ds : List Int) (day : Int) (l : List Int) : Int :=
  if bookErr s wo ks ds ≠ 0 then bookErr s wo ks ds
  else if ¬ (0 ≤ day ∧ day ≤ (ds.length : Int) - 1) then 2
  else if ¬ (1 ≤ (l.length : Int) - 1 ∧ (l.length : Int) - 1 ≤ 11) ∨ l.all (plainOk s) = false then 4
  else if l.getD 0 0 ≠ indN ks ds day then 8
  else if l.getD (l.length - 1) 0 ≠ checkN s (l.take (l.length - 1)) then 11
  else 0
def decPlain (s : Int) (ks : List (Int × Int × Int)) (ds : List Int) (day : Int) (l : List Int) : List Int :=
  upTo (fun i => decodeN s (keyAt ks ds day).1 (keyAt ks ds day).2.1 (keyAt ks ds day).2.2 (l.getD (i + 1) 0) i) (l.length - 2)
def decOut (s wo : Int) (ks : List (Int × Int × Int)) (ds : List Int) (day : Int) (l : List Int) : List Int := if decodeErr s wo ks ds day l = 0 then decPlain s ks ds day l else []
def Slices2 (B : Nat) (l1 l2 : List Int) (err : Int) (e : Ending) (w' : World) : Prop := ∃ a c a2 c2, e = .returned (.tuple #[.slice a l1.length c, .slice a2 l2.length c2, .int .i64 err]) ∧
  OwnL 3 1 B w' a c l1.length (l1.map (Value.int .i64)) ∧ OwnL 3 1 B w' a2 c2 l2.length (l2.map (Value.int .i64))
theorem Slices2.err {B : Nat} {err : Int} {w' : World} : Slices2 B [] [] err (.returned (.tuple #[.slice none 0 0, .slice none 0 0, .int .i64 err])) w' := ⟨none, 0, none, 0, rfl, OwnL.nil _ _ _ _, OwnL.nil _ _ _ _⟩

theorem IntsAt.sub {w : World} {b off : Nat} {l : List Int} (h : IntsAt w (some ⟨b, off, none⟩) l) (i m : Nat) (hm : i + m ≤ l.length) : IntsAt w (some ⟨b, off + i, none⟩) ((l.drop i).take m) := by
  intro k hk
  have hk' : k < m := by simp at hk; omega
  obtain ⟨b', off', hh, hlt, hc⟩ := h (i + k) (by omega)
  simp only [Option.some.injEq, Addr.mk.injEq, and_true] at hh
  obtain ⟨rfl, rfl⟩ := hh
  refine ⟨b, off + i, rfl, hlt, ?_⟩
  rw [show off + i + k = off + (i + k) by omega, hc]
  simp [hk']

theorem check_len (s wo : Int) (ks ds : Value) (al : Option Addr) (l : List Int) (n cl : Nat) (w : World) (hn : l.length = n) (h0 : 0 < s) (h1 : s ≤ 1000) (hl : IntsAt w al l) (hln : n ≤ 1000) (hb : ∀ x ∈ l, 0 ≤ x ∧ x ≤ 1000) :
    Calls Try.prog 61 #[.agg #[.int .i64 s, .int .i64 wo, ks, ds], .slice al n cl] w fun e w' => e = .returned (.int .i64 (checkN s l)) ∧ Below w.heap.size w w' := by
  subst hn
  exact check_any s wo ks ds al l cl w h0 h1 hl hln hb

theorem turned_len (s wo m a st : Int) (ak : Option Addr) (nk ck : Nat) (ad : Option Addr) (nd cd : Nat) (g : FuncId) (F : Nat → Int) (al : Option Addr) (l : List Int) (n cl : Nat) (w : World) (hnl : l.length = n) (hl : IntsAt w al l) (hn : n ≤ 1000)
    (hg : ∀ args w, Sem.run Try.prog (callFunc g args) w = .ok (.enter g args) w)
    (hF : ∀ (k : Nat) (hk : k < l.length) (w1 : World), Calls Try.prog g #[.agg #[.int .i64 s, .int .i64 wo, .slice ak nk ck, .slice ad nd cd], .agg #[.int .i64 m, .int .i64 a, .int .i64 st], .int .i64 l[k], .int .i64 k] w1 fun e w' => e = .returned (.int .i64 (F k)) ∧ Below w1.heap.size w1 w') :
    Calls Try.prog 59 #[.agg #[.int .i64 s, .int .i64 wo, .slice ak nk ck, .slice ad nd cd], .agg #[.func (.func g) #[] #[]], .agg #[.int .i64 m, .int .i64 a, .int .i64 st], .slice al n cl] w fun e w' =>
      ∃ a c, e = .returned (.slice a (upTo F n).length c) ∧ OwnL 3 1 w.heap.size w' a c (upTo F n).length ((upTo F n).map (Value.int .i64)) ∧ Below w.heap.size w w' := by
  subst hnl
  rw [upTo_len]
  exact turned_any s wo m a st ak nk ck ad nd cd g F al l cl w hl hn hg hF

set_option maxHeartbeats 4000000 in
theorem decode_full (s wo : Int) (ak : Option Addr) (ks : List (Int × Int × Int)) (ck : Nat) (ad : Option Addr) (ds : List Int) (cd : Nat) (day : Int) (al : Option Addr) (l : List Int) (cl : Nat) (w : World) (hk : Recs3At w ak ks) (hd : IntsAt w ad ds) (lk : ks.length ≤ 1000) (ld : ds.length ≤ 1000) (hl : IntsAt w al l) (ll : l.length ≤ 1000) (hcl : l.length ≤ cl) (hcm : cl ≤ 9223372036854775807) :
    Calls Try.prog 27 #[.agg #[.int .i64 s, .int .i64 wo, .slice ak ks.length ck, .slice ad ds.length cd], .int .i64 day, .slice al l.length cl] w fun e w' => Slices2 w.heap.size (decOut s wo ks ds day l) (kept (fun n => decide (wo ≤ n)) (decOut s wo ks ds day l)) (decodeErr s wo ks ds day l) e w' ∧ Below w.heap.size w w' := by
  by_cases hbk : bookErr s wo ks ds = 0
  · have Hbk := Lib.hid hbk
    obtain ⟨_, _, s0, s1, _, _, _, k0, d0, hka, hda⟩ := bookErr_ok hbk
    have Hka := Lib.hid hka
    have Hda := Lib.hid hda
    clear hka hda
    go_enter Try.func27, Try.ntmps27
    go_wp2_with (first
      | (go_at_call 51; refine (within_any _ _ _ _).mono ?_; rintro e w1 ⟨rfl, rfl⟩)
      | (go_at_call 18; refine (checkBook_any s wo ak ks ck ad ds cd _ (hk.below (by (repeat (first | exact Below.refl _ _ | refine Below.alloc ?_ (by first | omega | (simp; done) | (simp; omega)) _ | refine Below.drew ?_ | refine Below.setCell ?_ (by first | omega | (simp; done) | (simp; omega)) _ | refine Below.trans ?_ (Below.mono (by assumption) (by first | omega | (simp; done) | (simp; omega))))))) (hd.below (by (repeat (first | exact Below.refl _ _ | refine Below.alloc ?_ (by first | omega | (simp; done) | (simp; omega)) _ | refine Below.drew ?_ | refine Below.setCell ?_ (by first | omega | (simp; done) | (simp; omega)) _ | refine Below.trans ?_ (Below.mono (by assumption) (by first | omega | (simp; done) | (simp; omega))))))) lk ld).mono ?_; rintro e w1 ⟨rfl, hb1⟩; obtain ⟨hc1, hf1, hz1⟩ := bcell hb1; (try simp at hz1); (try (have hy0 : w.heap.size < w1.heap.size := by omega)); (try (have hy1 : w.heap.size + 1 < w1.heap.size := by omega)); (try (have hy2 : w.heap.size + 2 < w1.heap.size := by omega)))
      | (go_at_call 56; refine (day_any s wo day ak ad ks.length ck ds.length cd _ ld).mono ?_; rintro e w1 ⟨rfl, hb1⟩; obtain ⟨hc1, hf1, hz1⟩ := bcell hb1; (try simp at hz1); (try (have hy0 : w.heap.size < w1.heap.size := by omega)); (try (have hy1 : w.heap.size + 1 < w1.heap.size := by omega)); (try (have hy2 : w.heap.size + 2 < w1.heap.size := by omega)))
      | (go_at_call 54; refine (all_int al l cl 57 #[.agg #[.int .i64 s, .int .i64 wo, .slice ak ks.length ck, .slice ad ds.length cd]] #[] (plainOk s) _ (by omega) (hl.below (by (repeat (first | exact Below.refl _ _ | refine Below.alloc ?_ (by first | omega | (simp; done) | (simp; omega)) _ | refine Below.drew ?_ | refine Below.setCell ?_ (by first | omega | (simp; done) | (simp; omega)) _ | refine Below.trans ?_ (Below.mono (by assumption) (by first | omega | (simp; done) | (simp; omega))))))) (enters Try.func57 (by kernel_rfl) rfl) (fun x _ => plain_meets s wo ak ks ck ad ds cd x _ (by omega) (by omega))).mono ?_; rintro e w1 ⟨rfl, hb1⟩; obtain ⟨hc1, hf1, hz1⟩ := bcell hb1; (try simp at hz1); (try (have hy0 : w.heap.size < w1.heap.size := by omega)); (try (have hy1 : w.heap.size + 1 < w1.heap.size := by omega)); (try (have hy2 : w.heap.size + 2 < w1.heap.size := by omega)); cases hpa : l.all (plainOk s)))
    · have h1 : (!decide (0 ≤ day)) = true ∨ (!decide (day ≤ (ds.length : Int) - 1)) = true := by assumption
      have e1 : decodeErr s wo ks ds day l = 2 := by
        unfold decodeErr; rw [if_neg (by simp [Hbk.out]), if_pos (by simp at h1; omega)]
      unfold decOut
      rw [if_neg (by omega), e1]
      go_ret3
      exact ⟨Slices2.err, by (repeat (first | exact Below.refl _ _ | refine Below.alloc ?_ (by first | omega | (simp; done) | (simp; omega)) _ | refine Below.drew ?_ | refine Below.setCell ?_ (by first | omega | (simp; done) | (simp; omega)) _ | refine Below.trans ?_ (Below.mono (by assumption) (by first | omega | (simp; done) | (simp; omega)))))⟩
    · have h1 : (!decide (0 ≤ day)) = false ∧ (!decide (day ≤ (ds.length : Int) - 1)) = false := by assumption
      have e1 : decodeErr s wo ks ds day l = 4 := by
        unfold decodeErr; rw [if_neg (by simp [Hbk.out]), if_neg (by simp at h1; omega), if_pos (.inr hpa)]
      unfold decOut
      rw [if_neg (by omega), e1]
      go_ret3
      exact ⟨Slices2.err, by (repeat (first | exact Below.refl _ _ | refine Below.alloc ?_ (by first | omega | (simp; done) | (simp; omega)) _ | refine Below.drew ?_ | refine Below.setCell ?_ (by first | omega | (simp; done) | (simp; omega)) _ | refine Below.trans ?_ (Below.mono (by assumption) (by first | omega | (simp; done) | (simp; omega)))))⟩
    · have h1 : (!decide (0 ≤ day)) = false ∧ (!decide (day ≤ (ds.length : Int) - 1)) = false := by assumption
      have h2 : 1 ≤ (l.length : Int) - 1 ∧ (l.length : Int) - 1 ≤ 11 := by assumption
      have hday : 0 ≤ day ∧ day < (ds.length : Int) := by simp at h1; omega
      obtain ⟨d, rfl⟩ := Int.eq_ofNat_of_zero_le hday.1
      have hdl : d < ds.length := by omega
      have E0 : Hid (decodeErr s wo ks ds d l = if l.getD 0 0 ≠ indN ks ds d then 8 else if l.getD (l.length - 1) 0 ≠ checkN s (l.take (l.length - 1)) then 11 else 0) := by
        show decodeErr s wo ks ds d l = _
        unfold decodeErr; rw [if_neg (by simp [Hbk.out]), if_neg (by simp at h1; omega), if_neg (by rw [hpa]; simp; omega)]
      have Hall := Lib.hid hpa
      clear hpa h1
      obtain ⟨h2a, h2b⟩ := h2
      have hl2 : 2 ≤ l.length := by omega
      have hBox1 : Below (w.heap.size + 1) (w.alloc (.cells #[.int .i64 s, .int .i64 wo, .slice ak ks.length ck, .slice ad ds.length cd] 32)) w1 := by (repeat (first | exact Below.refl _ _ | refine Below.alloc ?_ (by first | omega | (simp; done) | (simp; omega)) _ | refine Below.drew ?_ | refine Below.setCell ?_ (by first | omega | (simp; done) | (simp; omega)) _ | refine Below.trans ?_ (Below.mono (by assumption) (by first | omega | (simp; done) | (simp; omega)))))
      have hwB : Below w.heap.size w w1 := by (repeat (first | exact Below.refl _ _ | refine Below.alloc ?_ (by first | omega | (simp; done) | (simp; omega)) _ | refine Below.drew ?_ | refine Below.setCell ?_ (by first | omega | (simp; done) | (simp; omega)) _ | refine Below.trans ?_ (Below.mono (by assumption) (by first | omega | (simp; done) | (simp; omega)))))
      have hdom : ∀ x ∈ ds, 0 ≤ x ∧ x ≤ 1000 := fun x hx => by have := List.all_eq_true.1 Hda.out x hx; simp [ownOk] at this; omega
      have hlm : ∀ x ∈ l, 0 ≤ x ∧ x ≤ 1000 := fun x hx => by have := List.all_eq_true.1 Hall.out x hx; simp [plainOk] at this; omega
      obtain ⟨b3, off3, hale, hb3, hc0⟩ := (hl.below hwB) 0 (by omega)
      have hc0' : w1.cell? ⟨b3, off3, none⟩ = some (.int .i64 l[0]) := by rw [Nat.add_zero] at hc0; rw [hc0]; simp [show 0 < l.length by omega]
      have hll : (0 : Int) < (l.length : Int) := by omega
      subst hale
      have hiv : indN ks ds (d : Int) = (ds[d] + (d : Int)) % ks.length := by simp [indN, hdl]
      have Hiv := Lib.hid hiv
      clear hiv hc0
      (refine wp_region_ext 8 (by kernel_rfl) (by kernel_rfl) ?_; simp only [List.take_succ_cons, List.take_zero, List.drop_succ_cons, List.drop_zero]; (repeat (go_big_quiet_step ((go_at_call 58; exact Calls_ext (indicator_any s wo _ ks ck _ ds cd d _ (hk.below (hwB.trans ((Ext.below _).mono hwB.size))) (hd.below (hwB.trans ((Ext.below _).mono hwB.size))) lk ld hdl k0 hdom))))); refine wpQuiet_nil ?_; rintro w2 ⟨⟨_, hex⟩, rfl⟩; (try dsimp only); obtain ⟨hc1, hf1, hz1⟩ := bcell hex; (try simp at hz1); (try (have hy0 : w.heap.size < w2.heap.size := by omega)); (try (have hy1 : w.heap.size + 1 < w2.heap.size := by omega)); (try (have hy2 : w.heap.size + 2 < w2.heap.size := by omega)))
      go_wp2
      · have h3 : (l[0] != (ds[d] + (d : Int)) % (ks.length : Int)) = true := by assumption
        have e1 : decodeErr s wo ks ds d l = 8 := by
          rw [E0.out, if_pos]
          rw [Hiv.out]
          simpa [show 0 < l.length by omega] using h3
        unfold decOut
        rw [if_neg (by omega), e1]
        go_ret3
        exact ⟨Slices2.err, by (repeat (first | exact Below.refl _ _ | refine Below.alloc ?_ (by first | omega | (simp; done) | (simp; omega)) _ | refine Below.drew ?_ | refine Below.setCell ?_ (by first | omega | (simp; done) | (simp; omega)) _ | refine Below.trans ?_ (Below.mono (by assumption) (by first | omega | (simp; done) | (simp; omega)))))⟩
      · have h3 : (l[0] != (ds[d] + (d : Int)) % (ks.length : Int)) = false := by assumption
        have E1 : Hid (decodeErr s wo ks ds d l = if l.getD (l.length - 1) 0 ≠ checkN s (l.take (l.length - 1)) then 11 else 0) := by
          show decodeErr s wo ks ds d l = _
          rw [E0.out, if_neg]
          rw [Hiv.out]
          simpa [show 0 < l.length by omega] using h3
        clear h3
        have hwB2 : Below w.heap.size w w2 := hwB.trans (hex.mono hwB.size)
        have hB12 := hex
        have hy1w : w.heap.size + 1 ≤ w1.heap.size := by omega
        have hy2w : w.heap.size + 1 ≤ w2.heap.size := by omega
        have hb32 : b3 < w2.heap.size := by omega
        obtain ⟨b4, off4, h44, hb4, hc4⟩ := (hl.below hwB) (l.length - 1) (by omega)
        simp only [Option.some.injEq, Addr.mk.injEq, and_true] at h44
        obtain ⟨rfl, rfl⟩ := h44
        have hc4' : w1.cell? ⟨b3, off3 + (l.length - 1), none⟩ = some (.int .i64 l[l.length - 1]) := by rw [hc4]; simp [show l.length - 1 < l.length by omega]
        clear hc4
        have htk : l.length - 1 ≤ l.length := by omega
        have hsub := IntsAt.sub (hl.below hwB2) 0 (l.length - 1) (by omega)
        rw [Nat.add_zero, List.drop_zero] at hsub
        have hsl : (l.take (l.length - 1)).length = l.length - 1 := by simp
        have Hsl := Lib.hid hsl
        clear hsl
        (refine wp_region_ext 10 (by kernel_rfl) (by kernel_rfl) ?_; simp only [List.take_succ_cons, List.take_zero, List.drop_succ_cons, List.drop_zero]; (repeat (go_big_quiet_step ((go_at_call 61; exact Calls_ext (check_len s wo _ _ (some ⟨b3, off3, none⟩) (l.take (l.length - 1)) (l.length - 1) cl _ Hsl.out (by omega) (by omega) (hsub.below (Ext.below _)) (by omega) (fun x hx => hlm x (List.mem_of_mem_take hx))))))); refine wpQuiet_nil ?_; rintro w3 ⟨⟨_, hex⟩, rfl⟩; (try dsimp only); obtain ⟨hc1, hf1, hz1⟩ := bcell hex; (try simp at hz1); (try (have hy0 : w.heap.size < w3.heap.size := by omega)); (try (have hy1 : w.heap.size + 1 < w3.heap.size := by omega)); (try (have hy2 : w.heap.size + 2 < w3.heap.size := by omega)))
        go_wp2
        · have h3 : (l[l.length - 1] != checkN s (l.take (l.length - 1))) = true := by assumption
          have e1 : decodeErr s wo ks ds d l = 11 := by
            rw [E1.out, if_pos]
            simpa [show l.length - 1 < l.length by omega] using h3
          unfold decOut
          rw [if_neg (by omega), e1]
          go_ret3
          exact ⟨Slices2.err, by (repeat (first | exact Below.refl _ _ | refine Below.alloc ?_ (by first | omega | (simp; done) | (simp; omega)) _ | refine Below.drew ?_ | refine Below.setCell ?_ (by first | omega | (simp; done) | (simp; omega)) _ | refine Below.trans ?_ (Below.mono (by assumption) (by first | omega | (simp; done) | (simp; omega)))))⟩
        · have h3 : (l[l.length - 1] != checkN s (l.take (l.length - 1))) = false := by assumption
          have e1 : decodeErr s wo ks ds d l = 0 := by
            rw [E1.out, if_neg]
            simpa [show l.length - 1 < l.length by omega] using h3
          have E2 := Lib.hid e1
          clear h3 e1
          have hwB3 : Below w.heap.size w w3 := hwB2.trans (hex.mono hwB2.size)
          have hB23 := hex
          have hy3w : w.heap.size + 1 ≤ w3.heap.size := by omega
          obtain ⟨b, off, hade, hbl, hcd0⟩ := (hd.below hwB) d hdl
          have hdm := List.all_eq_true.1 Hda.out ds[d] (List.getElem_mem hdl)
          obtain ⟨kk, hkk⟩ : ∃ kk : Nat, ds[d] = (kk : Int) := ⟨ds[d].toNat, by simp [ownOk] at hdm; omega⟩
          have hkl : kk < ks.length := by simp [ownOk] at hdm; omega
          obtain ⟨b2, off2, hake, hbl2, hk0, hk1, hk2⟩ := (hk.below hwB) kk hkl
          have hcd : w1.cell? ⟨b, off + d, none⟩ = some (.int .i64 (kk : Int)) := by rw [hcd0, ← hkk]; simp [hdl]
          have hko := List.all_eq_true.1 Hka.out ks[kk] (List.getElem_mem hkl)
          have hkv : keyAt ks ds (d : Int) = ks[kk] := by simp [keyAt, hdl, hkk, hkl]
          obtain ⟨⟨m, a, st⟩, hkey⟩ : ∃ q : Int × Int × Int, ks[kk] = q := ⟨_, rfl⟩
          rw [hkey] at hk0 hk1 hk2 hko hkv
          have Hkv := Lib.hid hkv
          clear hkv hcd0 hkk hdm hkey
          have hkI : (kk : Int) < (ks.length : Int) := by omega
          have hdI : (d : Int) < (ds.length : Int) := by omega
          have z1 : b < w2.heap.size := by omega
          have z2 : b < w3.heap.size := by omega
          have z3 : b2 < w2.heap.size := by omega
          have z4 : b2 < w3.heap.size := by omega
          have hcl1 : ¬ cl = 1 := by omega
          have hsub2 := IntsAt.sub (hl.below hwB3) 1 (l.length - 2) (by omega)
          have hsl2 : Hid (((l.drop 1).take (l.length - 2)).length = l.length - 1 - 1) := by show _ = _; simp; omega
          have hF : ∀ (j : Nat) (hj : j < ((l.drop 1).take (l.length - 2)).length) (w1 : World), Calls Try.prog 66 #[.agg #[.int .i64 s, .int .i64 wo, .slice ak ks.length ck, .slice ad ds.length cd], .agg #[.int .i64 m, .int .i64 a, .int .i64 st], .int .i64 ((l.drop 1).take (l.length - 2))[j], .int .i64 j] w1 fun e w' => e = .returned (.int .i64 (decodeN s m a st (l.getD (j + 1) 0) j)) ∧ Below w1.heap.size w1 w' := by
            intro j hj w1
            have hj' : j + 1 < l.length := by simp at hj; omega
            have e1 : ((l.drop 1).take (l.length - 2))[j] = l[j + 1] := by simp [Nat.add_comm]
            have e2 : l.getD (j + 1) 0 = l[j + 1] := by simp [hj']
            rw [e1, e2]
            have hx := List.all_eq_true.1 Hall.out l[j + 1] (List.getElem_mem hj')
            simp [keyOk, plainOk] at hko hx
            exact decode_any s wo m a st l[j + 1] j _ _ w1 (by omega) (by omega) (by omega) (by omega) (by omega) (by omega) (by omega) (by omega) (by omega) (by omega) (by omega) (by omega)
          subst hade hake
          clear hc4' E0 E1
          (refine wp_region_ext 14 (by kernel_rfl) (by kernel_rfl) ?_; simp only [List.take_succ_cons, List.take_zero, List.drop_succ_cons, List.drop_zero]; (repeat (go_big_quiet_step ((fail)))); refine wpQuiet_nil ?_; rintro w4 ⟨⟨_, hex⟩, rfl⟩; (try dsimp only); obtain ⟨hc1, hf1, hz1⟩ := bcell hex; (try simp at hz1); (try (have hy0 : w.heap.size < w4.heap.size := by omega)); (try (have hy1 : w.heap.size + 1 < w4.heap.size := by omega)); (try (have hy2 : w.heap.size + 2 < w4.heap.size := by omega)))
          have hy4w : w.heap.size + 1 ≤ w4.heap.size := by omega
          go_wp2_with fail
          refine (turned_len s wo m a st _ ks.length ck _ ds.length cd 66 _ (some ⟨b3, off3 + 1, none⟩) _ _ _ _ hsl2.out (hsub2.below hex) (by omega) (enters Try.func66 (by kernel_rfl) rfl) hF).mono ?_
          rintro e w5 ⟨a5, c5, rfl, o5, hb5⟩
          obtain ⟨L, hL⟩ : ∃ L, upTo (fun j => decodeN s m a st (l.getD (j + 1) 0) j) (l.length - 1 - 1) = L := ⟨_, rfl⟩
          rw [hL] at o5
          rw [hL]
          have hres : decOut s wo ks ds d l = L := by
            unfold decOut decPlain
            rw [if_pos E2.out, Hkv.out, ← hL]
            rfl
          have Hres := Lib.hid hres
          have hLl : L.length ≤ 1000 := by rw [← hL, upTo_len]; omega
          clear hres hL hsub2 hF
          have hwB4 : Below w.heap.size w w4 := hwB3.trans (hex.mono hwB3.size)
          have hwB5 : Below w.heap.size w w5 := hwB4.trans (hb5.mono hwB4.size)
          have hBox := (((hBox1.trans (hB12.mono hy1w)).trans (hB23.mono hy2w)).trans (hex.mono hy3w)).trans (hb5.mono hy4w)
          have hbx : w5.cell? ⟨w.heap.size, 1, none⟩ = some (.int .i64 wo) := by
            refine (hBox.cell (p := ⟨w.heap.size, 1, none⟩) (Nat.lt_succ_self _)).trans ?_
            rw [World.cell?_alloc_at _ _ _ _ rfl]; rfl
          have hs5 : w.heap.size < w5.heap.size := by have := hBox.size; simp at this; omega
          go_wp2_with fail
          refine (clone_any a5 L c5 w5 o5.ints.1 (fun h => by subst h; have := o5.isnil; exact ⟨List.eq_nil_of_length_eq_zero this.1, this.2⟩) (by omega)).mono ?_
          rintro e w6 ⟨a6, c6, rfl, o6, hb6⟩
          have hs6 := hb6.size
          go_wp2_with fail
          refine (deleteFunc_any a6 L c6 w5.heap.size 69 #[] #[.pointer (some ⟨w.heap.size, 0, none⟩)] (fun n => decide (wo ≤ n)) w6 (by omega) hs6 o6 (enters Try.func69 (by kernel_rfl) rfl) (fun x _ w7 h7 => null_any w.heap.size x wo w7 (((hb6.trans h7).cell (p := ⟨w.heap.size, 1, none⟩) hs5).trans hbx))).mono ?_
          rintro e w7 ⟨a7, c7, rfl, o7, hb7⟩
          go_wp2
          go_ret3
          have hb57 : Below w5.heap.size w5 w7 := hb6.trans hb7
          rw [Hres.out, E2.out]
          exact ⟨⟨a5, c5, a7, c7, rfl, (o5.kept hb57).base_le hwB4.size, o7.base_le hwB5.size⟩, hwB5.trans (hb57.mono hwB5.size)⟩
    · have h1 : (!decide (0 ≤ day)) = false ∧ (!decide (day ≤ (ds.length : Int) - 1)) = false := by assumption
      have h2 : ¬ (1 ≤ (l.length : Int) - 1 ∧ (l.length : Int) - 1 ≤ 11) := by assumption
      have e1 : decodeErr s wo ks ds day l = 4 := by
        unfold decodeErr; rw [if_neg (by simp [Hbk.out]), if_neg (by simp at h1; omega), if_pos (.inl h2)]
      unfold decOut
      rw [if_neg (by omega), e1]
      go_ret3
      exact ⟨Slices2.err, by (repeat (first | exact Below.refl _ _ | refine Below.alloc ?_ (by first | omega | (simp; done) | (simp; omega)) _ | refine Below.drew ?_ | refine Below.setCell ?_ (by first | omega | (simp; done) | (simp; omega)) _ | refine Below.trans ?_ (Below.mono (by assumption) (by first | omega | (simp; done) | (simp; omega)))))⟩
  · have Hbk := Lib.hid hbk
    have e1 : decodeErr s wo ks ds day l = bookErr s wo ks ds := by unfold decodeErr; rw [if_pos hbk]
    have e2 : decOut s wo ks ds day l = [] := by unfold decOut; rw [if_neg (by rw [e1]; exact hbk)]
    rw [e1, e2]
    clear e1 e2
    have hne : (bookErr s wo ks ds != 0) = true := by simpa using hbk
    clear hbk
    go_enter Try.func27, Try.ntmps27
    go_wp2_with (go_at_call 18; refine (checkBook_any s wo ak ks ck ad ds cd _ (hk.below (by (repeat (first | exact Below.refl _ _ | refine Below.alloc ?_ (by first | omega | (simp; done) | (simp; omega)) _ | refine Below.drew ?_ | refine Below.setCell ?_ (by first | omega | (simp; done) | (simp; omega)) _ | refine Below.trans ?_ (Below.mono (by assumption) (by first | omega | (simp; done) | (simp; omega))))))) (hd.below (by (repeat (first | exact Below.refl _ _ | refine Below.alloc ?_ (by first | omega | (simp; done) | (simp; omega)) _ | refine Below.drew ?_ | refine Below.setCell ?_ (by first | omega | (simp; done) | (simp; omega)) _ | refine Below.trans ?_ (Below.mono (by assumption) (by first | omega | (simp; done) | (simp; omega))))))) lk ld).mono ?_; rintro e w1 ⟨rfl, hb1⟩; obtain ⟨hc1, hf1, hz1⟩ := bcell hb1; (try simp at hz1); (try (have hy0 : w.heap.size < w1.heap.size := by omega)); (try (have hy1 : w.heap.size + 1 < w1.heap.size := by omega)); (try (have hy2 : w.heap.size + 2 < w1.heap.size := by omega)))
    go_ret3
    exact ⟨Slices2.err, by (repeat (first | exact Below.refl _ _ | refine Below.alloc ?_ (by first | omega | (simp; done) | (simp; omega)) _ | refine Below.drew ?_ | refine Below.setCell ?_ (by first | omega | (simp; done) | (simp; omega)) _ | refine Below.trans ?_ (Below.mono (by assumption) (by first | omega | (simp; done) | (simp; omega)))))⟩
end Go.Proofs.Ytmplgcefhpobgaa
