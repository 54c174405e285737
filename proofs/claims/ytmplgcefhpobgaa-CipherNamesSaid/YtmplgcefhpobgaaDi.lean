/- cipher: the reference's Decode · cipher: the reference's Decode (continued) -/
import Derived.Test.YtmplgcefhpobgaaDh
import Derived.Test.YtmplgcefhpobgaaMa
import Derived.Maps.AppendAt
namespace Go.Proofs.Ytmplgcefhpobgaa
set_option linter.unusedVariables false
set_option linter.unusedSimpArgs false
set_option linter.unnecessarySimpa false
open Go.RowKit Go.Flow

set_option maxHeartbeats 2000000 in
theorem means_any (s wo m a st c i : Int) (ks ds : Value) (w : World) (hs : isPrime s = true) (m0 : 1 ≤ m) (m1 : m < s) (a0 : 0 ≤ a) (a1 : a < s) (st0 : 0 ≤ st) (st1 : st < s) (c0 : 0 ≤ c) (c1 : c < s) (i0 : 0 ≤ i) (i1 : i ≤ 1000) :
    Calls Try.prog 70 #[.agg #[.int .i64 s, .int .i64 wo, ks, ds], .agg #[.int .i64 m, .int .i64 a, .int .i64 st], .int .i64 c, .int .i64 i] w fun e w' => e = .returned (.int .i64 (decodeN s m a st c i)) ∧ Below w.heap.size w w' := by
  obtain ⟨s0, s1⟩ := isPrime_b hs
  have hD := decode_b (s := s) (m := m) (a := a) (st := st) (c := c) (i := i) (by omega)
  have hiff : ∀ n : Int, 0 ≤ n → n < s → (codeN s m a st n i = c ↔ n = decodeN s m a st c i) := fun n n0 n1 => code_iff hs m0 m1 n0 n1 c0 c1
  obtain ⟨D, hDe⟩ : ∃ D, decodeN s m a st c i = D := ⟨_, rfl⟩
  rw [hDe] at hD hiff
  have HD := Lib.hid hDe
  have Hiff := Lib.hid hiff
  clear hDe hiff hs
  go_enter Try.func70, Try.ntmps70
  go_wp2
  have hb0 : Below w.heap.size w ((w.alloc (.cells #[.int .i64 s, .int .i64 wo, ks, ds] 25)).alloc (.cells #[.int .i64 m, .int .i64 a, .int .i64 st] 82)) := by (repeat (first | exact Below.refl _ _ | refine Below.alloc ?_ (by first | omega | (simp; done) | (simp; omega)) _ | refine Below.drew ?_ | refine Below.setCell ?_ (by first | omega | (simp; done) | (simp; omega)) _ | refine Below.trans ?_ (Below.mono (by assumption) (by first | omega | (simp; done) | (simp; omega)))))
  obtain ⟨W0, hW0⟩ : ∃ x : World, x = (w.alloc (.cells #[.int .i64 s, .int .i64 wo, ks, ds] 25)).alloc (.cells #[.int .i64 m, .int .i64 a, .int .i64 st] 82) := ⟨_, rfl⟩
  have hC1 : Cells W0 w.heap.size #[.int .i64 s, .int .i64 wo, ks, ds] 25 := by rw [hW0]; exact (Cells.new w _ _).below ((Below.refl _ _).alloc (Nat.le_refl _) _)
  have hC2 : Cells W0 (w.heap.size + 1) #[.int .i64 m, .int .i64 a, .int .i64 st] 82 := by
    have := Cells.new (w.alloc (.cells #[.int .i64 s, .int .i64 wo, ks, ds] 25)) #[.int .i64 m, .int .i64 a, .int .i64 st] 82
    rw [hW0]
    simpa using this
  rw [← hW0] at hb0 ⊢
  clear hW0
  go_loopw [9] (fun i' wr => ∃ k : Nat, (k : Int) ≤ D ∧ i' = .int .i64 k ∧ Below W0.heap.size W0 wr) (fun i' _ => D.toNat - (intOf i').toNat)
  case atStart => exact ⟨0, by omega, rfl, Below.refl _ _⟩
  case round =>
    obtain ⟨k, hk, rfl, hbr⟩ := hrel
    have hC1' := hC1.below hbr
    have hC2' := hC2.below hbr
    have g0 := hC1'.cell 0
    have g1 := hC1'.cell 1
    have g2 := hC1'.cell 2
    have g3 := hC1'.cell 3
    have f0 := hC2'.cell 0
    have f1 := hC2'.cell 1
    have f2 := hC2'.cell 2
    have l1 := hC1'.lt
    have l2 := hC2'.lt
    simp at g0 g1 g2 g3 f0 f1 f2
    have hks : (k : Int) < s := by omega
    have hcode := codeOf_any s wo m a st k i ks ds wr (by omega) (by omega) (by omega) (by omega) (by omega) (by omega) (by omega) (by omega) (by omega) (by omega) (by omega) (by omega)
    have hi := Hiff.out k (by omega) hks
    obtain ⟨C, hCe⟩ : ∃ C, codeN s m a st k i = C := ⟨_, rfl⟩
    rw [hCe] at hcode hi
    clear hCe
    by_cases hkD : (k : Int) = D
    · have tC : (C == c) = true := by simpa using hi.2 hkD
      have HkD := Lib.hid hkD
      clear hkD hi
      go_wp2_with (go_at_call 64; refine hcode.mono ?_; rintro e w1 ⟨rfl, hb1⟩)
      go_ret
      rw [HD.out, ← HkD.out]
      exact ⟨rfl, (hb0.trans (hbr.mono hb0.size)).trans (hb1.mono (by have := hb0.size; have := hbr.size; omega))⟩
    · have tC : (C == c) = false := by
        simp only [beq_eq_false_iff_ne]
        exact fun h => hkD (hi.1 h)
      have hkD2 : (k : Int) < D := by omega
      clear hi
      go_wp2_with (go_at_call 64; refine hcode.mono ?_; rintro e w1 ⟨rfl, hb1⟩)
      go_roundw
      case rel => exact ⟨k + 1, by omega, by go_num, hbr.trans (hb1.mono hbr.size)⟩
      case measure => simp [intOf]; omega

section
variable {P : Program} {t E : TypeId} {z : Value} {size bytes : Nat} {ops : Array Oper} {rest : List Oper} {o : Oper} {a : Act} {Q : Exit → Act → World → Prop}
def Apart (a1 a2 : Option Addr) : Prop := ∀ x y, a1 = some x → a2 = some y → x.block ≠ y.block
theorem OwnL.old {E : TypeId} {size base : Nat} {w : World} {a : Option Addr} {c n : Nat} {xs : List Value} (h : OwnL E size base w a c n xs) {x : Addr} (hx : a = some x) : x.block < w.heap.size := by
  rcases h.form with ⟨h1, _⟩ | ⟨g, h1, _, h2, _⟩
  · rw [h1] at hx; cases hx
  · rw [h1] at hx; cases hx; exact h2
/-- 'append(out, x)': where the new row lies. -/
theorem wpList_app_lit_at {W : World} {cs : Array Value} {E2 : TypeId} (el : Elem P t E z size bytes) (hgd : o.guard = none) (s x : Operand) (ho : o.op = .call { callee := .builtin .append, args := #[s, x], argTypes := #[t, t] })
    (base : Nat) (a0 : Option Addr) (n c0 : Nat) (xs : List Value) (hs : a.eval s = .slice a0 n c0) (hown : OwnL E size base W a0 c0 n xs)
    (m c : Nat) (hx : a.eval x = .slice (some ⟨W.heap.size, 0, none⟩) m c) (hl : cs.size = m * size) (h1 : ∀ u ∈ cs.toList, u.oneCell' = true)
    (h63 : n + m ≤ maxLen) (hbytes : (n + m) * bytes ≤ 140737488355328) (hbase : base ≤ W.heap.size)
    (h : ∀ a' c' w', OwnL E size base w' a' c' (n + m) (xs ++ cs.toList) → Below base W w' →
      (∀ {E' : TypeId} {size' base' : Nat} {a2 : Option Addr} {c2 n2 : Nat} {xs2 : List Value}, OwnL E' size' base' W a2 c2 n2 xs2 → Apart a0 a2 → OwnL E' size' base' w' a2 c2 n2 xs2 ∧ Apart a' a2) → wpList P ops Q rest (a.put o.dst (.slice a' (n + m) c')) w') :
    wpList P ops Q (o :: rest) a (W.alloc (.cells cs E2)) := by
  obtain ⟨i, hi, hz0, hz1, hz2⟩ := el.info
  refine wpList_append_own_at _ hgd s x t ho base E i z size bytes el.slice hi hz0 hz1 hz2 el.cells el.pos (.slice a0 n c0) n xs hs (hown.alloc _) ⟨W.heap.size, 0, none⟩ m c cs.toList hx (by simpa using hl) ?_ h1 h63 hbytes (by simp; omega) ?_
  · intro j u hu
    rw [addr_add, World.cell?_alloc_at _ _ _ _ rfl, Nat.zero_add]
    simpa using hu
  · intro v' w' h2 h3 h4 h5
    have hv : ∃ a' c', v' = .slice a' (n + m) c' := by
      rcases h2.2 with ⟨rfl, hnm⟩ | ⟨g, cap, cur, rfl, _⟩
      · exact ⟨none, 0, by rw [hnm]⟩
      · exact ⟨_, _, rfl⟩
    obtain ⟨a', c', rfl⟩ := hv
    refine h a' c' w' h2 (((Below.refl base W).alloc hbase _).trans (below_of_grown (hown.alloc _) (by simp; omega) h3)) ?_
    intro E' size' base' a2 c2 n2 xs2 k2 hap
    refine ⟨(k2.alloc _).grown h3 (fun g hg hg2 => ?_), ?_⟩
    · cases a0 with
      | none => simp [Value.ownBlock] at hg
      | some x0 =>
        cases a2 with
        | none => simp [Value.ownBlock] at hg2
        | some x2 =>
          simp [Value.ownBlock] at hg hg2
          exact hap x0 x2 rfl rfl (by rw [hg, hg2])
    · intro x1 x2 e1 e2
      subst e1 e2
      have hlt := k2.old rfl
      rcases h5 with h5 | h5
      · cases a0 with
        | none => simp [Value.ownBlock] at h5
        | some x0 =>
          simp [Value.ownBlock] at h5
          rw [h5]
          exact hap x0 x2 rfl rfl
      · simp [Value.ownBlock] at h5
        omega
theorem Apart.symm {a1 a2 : Option Addr} (h : Apart a1 a2) : Apart a2 a1 := fun x y h1 h2 e => h y x h2 h1 e.symm
theorem Apart.none (a : Option Addr) : Apart none a := fun _ _ h => by cases h
end
end Go.Proofs.Ytmplgcefhpobgaa

namespace Go.Proofs.Ytmplgcefhpobgaa
set_option linter.unusedVariables false
set_option linter.unusedSimpArgs false
set_option linter.unnecessarySimpa false
open Go.RowKit Go.Flow

def DecRet (pl wd : List Int) (err : Int) (e : Ending) (w' : World) : Prop := ∃ a c a2 c2, e = .returned (.tuple #[.slice a pl.length c, .slice a2 wd.length c2, .int .i64 err]) ∧ IntsAt w' a pl ∧ IntsAt w' a2 wd
theorem DecRet.err {err : Int} {w' : World} : DecRet [] [] err (.returned (.tuple #[.slice none 0 0, .slice none 0 0, .int .i64 err])) w' := ⟨none, 0, none, 0, rfl, IntsAt.nil _ _, IntsAt.nil _ _⟩
def keptB (wo : Int) (l : List Int) : List Int := kept (fun n => decide (wo ≤ n)) l

theorem plainRef_at (s wo : Int) (ks ds : Value) (a : Option Addr) (l : List Int) (n c : Nat) (hn : l.length = n) (r : Bool) (h : Hid (l.all (plainOk s) = r)) (w : World) (h0 : 0 ≤ s) (h1 : s ≤ 1000) (hl : IntsAt w a l) (ll : n ≤ 1000) :
    Calls Try.prog 24 #[.agg #[.int .i64 s, .int .i64 wo, ks, ds], .slice a n c] w fun e w' => e = .returned (.bool r) ∧ Below w.heap.size w w' := by
  subst hn; exact plainRef_eq s wo ks ds a l c r h w h0 h1 hl ll

set_option maxRecDepth 100000 in
set_option maxHeartbeats 8000000 in
theorem refDecode_any (s wo : Int) (ak : Option Addr) (ks : List (Int × Int × Int)) (ck : Nat) (ad : Option Addr) (ds : List Int) (cd : Nat) (day : Int) (al : Option Addr) (l : List Int) (cl : Nat) (w : World) (hk : Recs3At w ak ks) (hd : IntsAt w ad ds) (lk : ks.length ≤ 1000) (ld : ds.length ≤ 1000) (hl : IntsAt w al l) (ll : l.length ≤ 1000) (hcl : l.length ≤ cl) (hcm : cl ≤ 9223372036854775807) (hbk : bookErr s wo ks ds = 0) (hday : 0 ≤ day ∧ day ≤ (ds.length : Int) - 1) :
    Calls Try.prog 28 #[.agg #[.int .i64 s, .int .i64 wo, .slice ak ks.length ck, .slice ad ds.length cd], .int .i64 day, .slice al l.length cl] w fun e w' => DecRet (decOut s wo ks ds day l) (keptB wo (decOut s wo ks ds day l)) (decodeErr s wo ks ds day l) e w' ∧ Below w.heap.size w w' := by
  obtain ⟨lk5, ld8, s0, s1, hpr, _, _, k0, d0, hka, hda⟩ := bookErr_ok hbk
  have hprime : isPrime s = true := isPrime_iff.2 ⟨⟨s0, s1⟩, hpr⟩
  obtain ⟨d, rfl⟩ := Int.eq_ofNat_of_zero_le hday.1
  have hdl : d < ds.length := by omega
  have hdm := List.all_eq_true.1 hda ds[d] (List.getElem_mem hdl)
  obtain ⟨kk, hkk⟩ : ∃ kk : Nat, ds[d] = (kk : Int) := ⟨ds[d].toNat, by simp [ownOk] at hdm; omega⟩
  have hkl : kk < ks.length := by simp [ownOk] at hdm; omega
  have hko := List.all_eq_true.1 hka ks[kk] (List.getElem_mem hkl)
  have hkv : keyAt ks ds (d : Int) = ks[kk] := by simp [keyAt, hdl, hkk, hkl]
  have hiv : indN ks ds (d : Int) = (ds[d] + (d : Int)) % ks.length := by simp [indN, hdl]
  have hdB : ∀ x ∈ ds, 0 ≤ x ∧ x ≤ 1000 := fun x hx => by have := List.all_eq_true.1 hda x hx; simp [ownOk] at this; omega
  obtain ⟨⟨m, a, st⟩, hkey⟩ : ∃ q : Int × Int × Int, ks[kk] = q := ⟨_, rfl⟩
  have hkb : 1 ≤ m ∧ m ≤ s - 1 ∧ 0 ≤ a ∧ a ≤ s - 1 ∧ 0 ≤ st ∧ st ≤ s - 1 := by rw [hkey] at hko; simp [keyOk] at hko; omega
  obtain ⟨z0, hz0⟩ : ∃ z, indN ks ds (d : Int) = z := ⟨_, rfl⟩
  have hind : ∀ W, Below w.heap.size w W → Calls Try.prog 63 #[.agg #[.int .i64 s, .int .i64 wo, .slice ak ks.length ck, .slice ad ds.length cd], .int .i64 d] W fun e w' => e = .returned (.int .i64 z0) ∧ Below W.heap.size W w' := fun W hW => by
    have := refIndicator_any s wo ak ks ck ad ds cd d W (hk.below hW) (hd.below hW) lk ld hdl k0 hdB
    rwa [← hiv, hz0] at this
  have hdI : (d : Int) < (ds.length : Int) := by omega
  have hkI : (kk : Int) < (ks.length : Int) := by omega
  have Hkk := Lib.hid hkk
  have Hkey := Lib.hid hkey
  have Hprime := Lib.hid hprime
  have Hbk := Lib.hid hbk
  have Hkv := Lib.hid hkv
  have herr : ∀ E : Int, E ≠ 0 → decodeErr s wo ks ds d l = E → decOut s wo ks ds d l = [] := fun E hE h => if_neg (by rw [h]; exact hE)
  have hstep : decodeErr s wo ks ds d l = if ¬ (1 ≤ (l.length : Int) - 1 ∧ (l.length : Int) - 1 ≤ 11) ∨ l.all (plainOk s) = false then 4 else if l.getD 0 0 ≠ z0 then 8 else if l.getD (l.length - 1) 0 ≠ checkN s (l.take (l.length - 1)) then 11 else 0 := by
    unfold decodeErr; rw [if_neg (by simp [hbk]), if_neg (by omega), hz0]
  have Hstep := Lib.hid hstep
  clear hkv hiv hdm hkk hko hkey hbk hka hda hz0 hprime hpr hstep
  by_cases h1 : 1 ≤ (l.length : Int) - 1
  · by_cases h11 : (l.length : Int) - 1 ≤ 11
    · obtain ⟨n, hn⟩ : ∃ n : Nat, l.length = n + 1 := ⟨l.length - 1, by omega⟩
      have Hn := Lib.hid hn
      have n1 : 1 ≤ n := by omega
      have n11 : n ≤ 11 := by omega
      have hncl : n + 1 ≤ cl := by omega
      cases hpa : l.all (plainOk s)
      · have hE : decodeErr s wo ks ds d l = 4 := by rw [Hstep.out, if_pos (.inr hpa)]
        have HO := Lib.hid (herr 4 (by omega) hE)
        have HE := Lib.hid hE
        have HP := Lib.hid hpa
        rw [hn]
        clear hE hpa hn h1 h11 ll hcl
        go_enter Try.func28, Try.ntmps28
        go_wp2_with (go_at_call 24; refine (plainRef_at s wo _ _ al l (n + 1) cl Hn.out false HP _ (by omega) (by omega) (hl.below (by (repeat (first | exact Below.refl _ _ | refine Below.alloc ?_ (by first | omega | (simp; done) | (simp; omega)) _ | refine Below.drew ?_ | refine Below.setCell ?_ (by first | omega | (simp; done) | (simp; omega)) _ | refine Below.trans ?_ (Below.mono (by assumption) (by first | omega | (simp; done) | (simp; omega))))))) (by omega)).mono ?_; rintro e w1 ⟨rfl, hb1⟩)
        go_ret3
        rw [HE.out, HO.out]
        exact ⟨DecRet.err, by (repeat (first | exact Below.refl _ _ | refine Below.alloc ?_ (by first | omega | (simp; done) | (simp; omega)) _ | refine Below.drew ?_ | refine Below.setCell ?_ (by first | omega | (simp; done) | (simp; omega)) _ | refine Below.trans ?_ (Below.mono (by assumption) (by first | omega | (simp; done) | (simp; omega)))))⟩
      · have hlB : ∀ (j : Nat) (h : j < l.length), 0 ≤ l[j] ∧ l[j] < s := fun j h => by have := List.all_eq_true.1 hpa l[j] (List.getElem_mem h); simp [plainOk] at this; omega
        obtain ⟨b, off, rfl, hbl, hc0⟩ := hl 0 (by omega)
        have HP := Lib.hid hpa
        have hc0' : w.cell? ⟨b, off, none⟩ = some (.int .i64 (l[0]'(by omega))) := by have := hc0; simp [show 0 < l.length by omega] at this; exact this
        have hx0 := hlB 0 (by omega)
        obtain ⟨x0, hx0e⟩ : ∃ x, l[0]'(by omega) = x := ⟨_, rfl⟩
        rw [hx0e] at hc0' hx0
        have hg0 : l.getD 0 0 = x0 := by rw [← hx0e]; simp [show 0 < l.length by omega]
        have hcn : w.cell? ⟨b, off + n, none⟩ = some (.int .i64 (l[n]'(by omega))) := by
          obtain ⟨b', off', e, _, hc⟩ := hl n (by omega)
          simp only [Option.some.injEq, Addr.mk.injEq, and_true] at e
          obtain ⟨rfl, rfl⟩ := e
          rw [hc]; simp [show n < l.length by omega]
        obtain ⟨xn, hxne⟩ : ∃ x, l[n]'(by omega) = x := ⟨_, rfl⟩
        rw [hxne] at hcn
        have hln : l.length - 1 = n := by omega
        have hgn : l.getD (l.length - 1) 0 = xn := by
          rw [hln, List.getD_eq_getElem?_getD, List.getElem?_eq_getElem (show n < l.length by omega)]
          exact hxne
        have hzb1 : b < w.heap.size + 1 := by omega
        have htl : (l.take n).length = n := by simp; omega
        have hlt : IntsAt w (some ⟨b, off, none⟩) (l.take n) := by have := hl.sub 0 n (by omega); simpa using this
        have htB : ∀ x ∈ l.take n, 0 ≤ x ∧ x ≤ 1000 := fun x hx => by
          obtain ⟨j, hj, rfl⟩ := List.getElem_of_mem (List.mem_of_mem_take hx)
          have := hlB j hj; omega
        have hchk : ∀ W, Below w.heap.size w W → Calls Try.prog 65 #[.agg #[.int .i64 s, .int .i64 wo, .slice ak ks.length ck, .slice ad ds.length cd], .slice (some ⟨b, off, none⟩) n cl] W fun e w' => e = .returned (.int .i64 (checkN s (l.take n))) ∧ Below W.heap.size W w' := fun W hW => by
          have := refCheck_any s wo (.slice ak ks.length ck) (.slice ad ds.length cd) (some ⟨b, off, none⟩) (l.take n) cl W (by omega) (by omega) (hlt.below hW) (by omega) htB
          rwa [htl] at this
        obtain ⟨C, hC⟩ : ∃ C, checkN s (l.take n) = C := ⟨_, rfl⟩
        rw [hC] at hchk
        have hst2 : decodeErr s wo ks ds d l = if x0 ≠ z0 then 8 else if xn ≠ C then 11 else 0 := by
          rw [Hstep.out, if_neg (by simp [hpa]; omega), hg0, hgn, show l.length - 1 = n by omega, hC]
        have Hst2 := Lib.hid hst2
        have HlB := Lib.hid hlB
        have Hl := Lib.hid hl
        rw [hn]
        have hb0' : ∀ j : Nat, b < w.heap.size + 1 := fun _ => by omega
        clear hln hst2 hpa h1 h11 ll hcl hx0e hg0 hgn hxne htl hlt htB hC hc0 hlB hn hb0'
        by_cases hz : x0 = z0
        · have tz : (x0 != z0) = false := by simp [hz]
          have Hz := Lib.hid hz
          clear hz
          by_cases hc : xn = C
          · have tc : (xn != C) = false := by simp [hc]
            have hE : decodeErr s wo ks ds d l = 0 := by rw [Hst2.out, if_neg (by simp [Hz.out]), if_neg (by simp [hc])]
            have HE := Lib.hid hE
            obtain ⟨F, hF⟩ : ∃ F : Nat → Int, (fun i : Nat => decodeN s m a st (l.getD (i + 1) 0) i) = F := ⟨_, rfl⟩
            have HO : Hid (decOut s wo ks ds d l = upTo F (n - 1)) := Lib.hid (by unfold decOut decPlain; rw [if_pos hE, Hkv.out, Hkey.out, show l.length - 2 = n - 1 by have := Hn.out; omega, ← hF])
            have HFi : Hid (∀ (k : Nat) (h : k + 1 < l.length), decodeN s m a st l[k + 1] k = F k) := Lib.hid (fun k h => by rw [← hF]; simp [h])
            clear hE hF hc
            go_enter Try.func28, Try.ntmps28
            go_wp2_with (go_at_call 24; refine (plainRef_at s wo _ _ _ l (n + 1) cl Hn.out true HP _ (by omega) (by omega) (Hl.out.below (by (repeat (first | exact Below.refl _ _ | refine Below.alloc ?_ (by first | omega | (simp; done) | (simp; omega)) _ | refine Below.drew ?_ | refine Below.setCell ?_ (by first | omega | (simp; done) | (simp; omega)) _ | refine Below.trans ?_ (Below.mono (by assumption) (by first | omega | (simp; done) | (simp; omega))))))) (by omega)).mono ?_; rintro e w1 ⟨rfl, hb1⟩; have hw1 : Below w.heap.size w w1 := Below.trans ((Below.refl _ _).alloc (Nat.le_refl _) _) (hb1.mono (by simp)); obtain ⟨q0, q1, q2, q3⟩ := BookAt.of (hb1.mono (by simp)); have lB := cell_lt q0; simp only at lB; have c0 := below_cell hw1 hc0'; have cn := below_cell hw1 hcn; have lb := cell_lt c0; simp only at lb)
            (refine wp_region_ext 7 (by kernel_rfl) (by kernel_rfl) ?_; simp only [List.take_succ_cons, List.take_zero, List.drop_succ_cons, List.drop_zero]; (repeat (go_big_quiet_step (((go_at_call 63; refine Calls_ext (hind _ (hw1.trans (Below.mono (Ext.below _) hw1.size)))))))); refine wpQuiet_nil ?_; rintro _ ⟨ex, rfl⟩; have hex := ex.below; have hexz := ex.size; (try simp at hexz); (try (have hy0 : w.heap.size < ex.to.heap.size := by omega)); (try (have hy1 : w.heap.size + 1 < ex.to.heap.size := by omega)); (try (have hy2 : w.heap.size + 2 < ex.to.heap.size := by omega)))
            obtain ⟨w2, hw2e⟩ : ∃ x : World, x = ex.to := ⟨_, rfl⟩
            rw [← hw2e] at hex hexz ⊢
            clear hw2e
            have hw2 := hw1.trans (hex.mono hw1.size)
            replace q0 := below_cell hex q0
            replace q1 := below_cell hex q1
            replace q2 := below_cell hex q2
            replace q3 := below_cell hex q3
            replace c0 := below_cell hex c0
            replace cn := below_cell hex cn
            replace lB := Nat.lt_of_lt_of_le lB hex.size
            replace lb := Nat.lt_of_lt_of_le lb hex.size
            go_wp2
            (refine wp_region_ext 10 (by kernel_rfl) (by kernel_rfl) ?_; simp only [List.take_succ_cons, List.take_zero, List.drop_succ_cons, List.drop_zero]; (repeat (go_big_quiet_step (((go_at_call 65; refine Calls_ext (hchk _ (hw2.trans (Below.mono (Ext.below _) hw2.size)))))))); refine wpQuiet_nil ?_; rintro _ ⟨ex, rfl⟩; have hex := ex.below; have hexz := ex.size; (try simp at hexz); (try (have hy0 : w.heap.size < ex.to.heap.size := by omega)); (try (have hy1 : w.heap.size + 1 < ex.to.heap.size := by omega)); (try (have hy2 : w.heap.size + 2 < ex.to.heap.size := by omega)))
            obtain ⟨w3, hw3e⟩ : ∃ x : World, x = ex.to := ⟨_, rfl⟩
            rw [← hw3e] at hex hexz ⊢
            clear hw3e
            have hw3 := hw2.trans (hex.mono hw2.size)
            replace q0 := below_cell hex q0
            replace q1 := below_cell hex q1
            replace q2 := below_cell hex q2
            replace q3 := below_cell hex q3
            clear c0 cn hb1 hind hchk
            go_wp2
            go_loopw [10, 11, 12, 13] (fun v1 v2 i _ wr => ∃ (k : Nat) (a1 : Option Addr) (c1 : Nat) (a2 : Option Addr) (c2 : Nat), k + 1 ≤ n ∧ i = .int .i64 ((k + 1 : Nat) : Int) ∧ v1 = .slice a1 k c1 ∧ v2 = .slice a2 (keptB wo (upTo F k)).length c2 ∧
              OwnL 3 1 w3.heap.size wr a1 c1 k ((upTo F k).map (Value.int .i64)) ∧ OwnL 3 1 w3.heap.size wr a2 c2 (keptB wo (upTo F k)).length ((keptB wo (upTo F k)).map (Value.int .i64)) ∧ Apart a1 a2 ∧ Below w3.heap.size w3 wr) (fun _ _ i _ _ => n - (intOf i).toNat)
            case atStart => exact ⟨0, none, 0, none, 0, by omega, rfl, rfl, rfl, OwnL.nil _ _ _ _, OwnL.nil _ _ _ _, Apart.none _, Below.refl _ _⟩
            case round =>
              obtain ⟨k, a1, c1, a2, c2, hkn, rfl, rfl, rfl, own1, own2, hap, hbr⟩ := hrel
              have hwr := hw3.trans (hbr.mono hw3.size)
              have p0 := below_cell hbr q0
              have p1 := below_cell hbr q1
              have p2 := below_cell hbr q2
              have p3 := below_cell hbr q3
              have lp := cell_lt p0
              simp only at lp
              have hzr := hbr.size
              have hkl2 := List.length_filter_le (fun x => !decide (wo ≤ x)) (upTo F k)
              rw [upTo_len] at hkl2
              have hK : (keptB wo (upTo F k)).length ≤ k := hkl2
              clear hkl2
              obtain ⟨K, hKe⟩ : ∃ K, keptB wo (upTo F k) = K := ⟨_, rfl⟩
              have HK := Lib.hid hKe
              rw [hKe] at own2 hK ⊢
              clear hKe
              by_cases hlt : k + 1 < n
              · have hcx : wr.cell? ⟨b, off + (k + 1), none⟩ = some (.int .i64 (l[k + 1]'(by have := Hn.out; omega))) := by
                  obtain ⟨b', off', e, _, hc⟩ := (Hl.out.below hwr) (k + 1) (by have := Hn.out; omega)
                  simp only [Option.some.injEq, Addr.mk.injEq, and_true] at e
                  obtain ⟨rfl, rfl⟩ := e
                  rw [hc]; simp [show k + 1 < l.length by have := Hn.out; omega]
                obtain ⟨bd, offd, rfl, hbd, cd0⟩ := (hd.below hwr) d hdl
                obtain ⟨bk, offk, rfl, hbk2, ck0, ck1, ck2⟩ := (hk.below hwr) kk hkl
                rw [Hkey.out] at ck0 ck1 ck2
                simp only at ck0 ck1 ck2
                have cd0' : wr.cell? ⟨bd, offd + d, none⟩ = some (.int .i64 kk) := cd0.trans (by rw [← Hkk.out]; simp [hdl])
                have hxb := HlB.out (k + 1) (by have := Hn.out; omega)
                have HFk := Lib.hid (HFi.out k (by have := Hn.out; omega))
                have hlb2 : b < wr.heap.size := cell_lt hcx
                obtain ⟨x, hxe⟩ : ∃ x, l[k + 1]'(by have := Hn.out; omega) = x := ⟨_, rfl⟩
                rw [hxe] at hcx hxb HFk
                have hnxt : upTo F (k + 1) = upTo F k ++ [F k] := upTo_succ F k
                have Hnxt := Lib.hid hnxt
                clear hxe cd0 hnxt
                have hmean : ∀ W, Calls Try.prog 70 #[.agg #[.int .i64 s, .int .i64 wo, .slice (some ⟨bk, offk, none⟩) ks.length ck, .slice (some ⟨bd, offd, none⟩) ds.length cd], .agg #[.int .i64 m, .int .i64 a, .int .i64 st], .int .i64 x, .int .i64 k] W fun e w' => e = .returned (.int .i64 (F k)) ∧ Below W.heap.size W w' := fun W => by
                  have := means_any s wo m a st x k (.slice (some ⟨bk, offk, none⟩) ks.length ck) (.slice (some ⟨bd, offd, none⟩) ds.length cd) W Hprime.out (by omega) (by omega) (by omega) (by omega) (by omega) (by omega) (by omega) (by omega) (by omega) (by omega)
                  rwa [HFk.out] at this
                have hltI : ((k + 1 : Nat) : Int) < ((n + 1 : Nat) : Int) := by omega
                go_wp2
                (refine wp_region_ext 17 (by kernel_rfl) (by kernel_rfl) ?_; simp only [List.take_succ_cons, List.take_zero, List.drop_succ_cons, List.drop_zero]; (repeat (go_big_quiet_step (((go_at_call 70; refine Calls_ext (hmean _)))))); refine wpQuiet_nil ?_; rintro _ ⟨ex, rfl⟩; have hex := ex.below; have hexz := ex.size; (try simp at hexz); (try (have hy0 : w.heap.size < ex.to.heap.size := by omega)); (try (have hy1 : w.heap.size + 1 < ex.to.heap.size := by omega)); (try (have hy2 : w.heap.size + 2 < ex.to.heap.size := by omega)))
                obtain ⟨w4, hw4e⟩ : ∃ x : World, x = ex.to := ⟨_, rfl⟩
                rw [← hw4e] at hex hexz ⊢
                clear hw4e
                have own1' := own1.kept hex
                have own2' := own2.kept hex
                replace p1 := below_cell hex p1
                replace lp := Nat.lt_of_lt_of_le lp hex.size
                have p1l := cell_lt p1
                clear own1 own2 hcx p0 p2 p3 ck0 ck1 ck2 cd0'
                go_wp2_with (at_builtin; refine wpList_app_lit_at elInt rfl _ _ rfl w3.heap.size a1 k c1 _ rfl own1' 1 1 rfl rfl (fun u hu => ?c1) ?c2 ?c3 ?c4 ?_)
                case c1 => simp at hu; subst hu; rfl
                case c2 => unfold maxLen; omega
                case c3 => omega
                case c4 => omega
                intro a6 c6 w6 own6 hb6 hkeep
                obtain ⟨own7, hap7⟩ := hkeep own2' hap
                have b46 := hb6.size
                have p1' : w6.cell? ⟨w.heap.size, 1, none⟩ = some (.int .i64 wo) := (hb6.cell (p := ⟨w.heap.size, 1, none⟩) (by have := hw3.size; have := cell_lt q0; simp only at *; omega)).trans p1
                have lp6 : w.heap.size < w6.heap.size := by omega
                clear own1' own2' hkeep p1
                by_cases hw : F k < wo
                · have Hkk2 : Hid (keptB wo (upTo F (k + 1)) = K ++ [F k]) := Lib.hid (by rw [Hnxt.out]; unfold keptB; rw [kept_snoc, if_neg (by simp; omega)]; rw [show kept (fun n => decide (wo ≤ n)) (upTo F k) = K from HK.out])
                  have tw : decide (F k < wo) = true := by simpa using hw
                  go_wp2_with (at_builtin; refine wpList_app_lit_at elInt rfl _ _ rfl w3.heap.size a2 K.length c2 _ rfl own7 1 1 rfl rfl (fun u hu => ?d1) ?d2 ?d3 ?d4 ?_)
                  case d1 => simp at hu; subst hu; rfl
                  case d2 => unfold maxLen; omega
                  case d3 => omega
                  case d4 => omega
                  intro a8 c8 w8 own8 hb8 hkeep
                  obtain ⟨own9, hap9⟩ := hkeep own6 hap7.symm
                  go_wp2
                  go_roundw
                  case rel => exact ⟨k + 1, a6, c6, a8, c8, by omega, by go_num, rfl, by rw [Hkk2.out]; simp, by rw [Hnxt.out, List.map_append]; exact own9, by rw [Hkk2.out]; simpa using own8, hap9.symm, ((hbr.trans (hex.mono (by omega))).trans hb6).trans hb8⟩
                  case measure => simp [intOf]; omega
                · have Hkk2 : Hid (keptB wo (upTo F (k + 1)) = K) := Lib.hid (by rw [Hnxt.out]; unfold keptB; rw [kept_snoc, if_pos (by simp; omega)]; rw [List.append_nil]; exact HK.out)
                  have tw : decide (F k < wo) = false := by simpa using hw
                  go_wp2
                  go_roundw
                  case rel => exact ⟨k + 1, a6, c6, a2, c2, by omega, by go_num, rfl, by rw [Hkk2.out], by rw [Hnxt.out, List.map_append]; exact own6, by rw [Hkk2.out]; exact own7, hap7, (hbr.trans (hex.mono (by omega))).trans hb6⟩
                  case measure => simp [intOf]; omega
              · obtain rfl : n = k + 1 := by omega
                go_wp2
                go_ret3
                have e1 : (upTo F k).length = k := upTo_len F k
                refine ⟨⟨a1, c1, a2, c2, ?_, ?_, ?_⟩, hwr⟩
                · rw [HO.out, HE.out, Nat.add_sub_cancel, HK.out, e1]; rfl
                · rw [HO.out, Nat.add_sub_cancel]; exact own1.ints.1
                · rw [HO.out, Nat.add_sub_cancel, HK.out]; exact own2.ints.1
          · have tc : (xn != C) = true := by simp [hc]
            have hE : decodeErr s wo ks ds d l = 11 := by rw [Hst2.out, if_neg (by simp [Hz.out]), if_pos (by simpa using hc)]
            have HO := Lib.hid (herr 11 (by omega) hE)
            have HE := Lib.hid hE
            clear hE hc
            go_enter Try.func28, Try.ntmps28
            go_wp2_with (go_at_call 24; refine (plainRef_at s wo _ _ _ l (n + 1) cl Hn.out true HP _ (by omega) (by omega) (Hl.out.below (by (repeat (first | exact Below.refl _ _ | refine Below.alloc ?_ (by first | omega | (simp; done) | (simp; omega)) _ | refine Below.drew ?_ | refine Below.setCell ?_ (by first | omega | (simp; done) | (simp; omega)) _ | refine Below.trans ?_ (Below.mono (by assumption) (by first | omega | (simp; done) | (simp; omega))))))) (by omega)).mono ?_; rintro e w1 ⟨rfl, hb1⟩; have hw1 : Below w.heap.size w w1 := Below.trans ((Below.refl _ _).alloc (Nat.le_refl _) _) (hb1.mono (by simp)); obtain ⟨q0, q1, q2, q3⟩ := BookAt.of (hb1.mono (by simp)); have lB := cell_lt q0; simp only at lB; have c0 := below_cell hw1 hc0'; have cn := below_cell hw1 hcn; have lb := cell_lt c0; simp only at lb)
            (refine wp_region_ext 7 (by kernel_rfl) (by kernel_rfl) ?_; simp only [List.take_succ_cons, List.take_zero, List.drop_succ_cons, List.drop_zero]; (repeat (go_big_quiet_step (((go_at_call 63; refine Calls_ext (hind _ (hw1.trans (Below.mono (Ext.below _) hw1.size)))))))); refine wpQuiet_nil ?_; rintro _ ⟨ex, rfl⟩; have hex := ex.below; have hexz := ex.size; (try simp at hexz); (try (have hy0 : w.heap.size < ex.to.heap.size := by omega)); (try (have hy1 : w.heap.size + 1 < ex.to.heap.size := by omega)); (try (have hy2 : w.heap.size + 2 < ex.to.heap.size := by omega)))
            obtain ⟨w2, hw2e⟩ : ∃ x : World, x = ex.to := ⟨_, rfl⟩
            rw [← hw2e] at hex hexz ⊢
            clear hw2e
            have hw2 := hw1.trans (hex.mono hw1.size)
            replace q0 := below_cell hex q0
            replace q1 := below_cell hex q1
            replace q2 := below_cell hex q2
            replace q3 := below_cell hex q3
            replace c0 := below_cell hex c0
            replace cn := below_cell hex cn
            replace lB := Nat.lt_of_lt_of_le lB hex.size
            replace lb := Nat.lt_of_lt_of_le lb hex.size
            go_wp2
            (refine wp_region_ext 10 (by kernel_rfl) (by kernel_rfl) ?_; simp only [List.take_succ_cons, List.take_zero, List.drop_succ_cons, List.drop_zero]; (repeat (go_big_quiet_step (((go_at_call 65; refine Calls_ext (hchk _ (hw2.trans (Below.mono (Ext.below _) hw2.size)))))))); refine wpQuiet_nil ?_; rintro _ ⟨ex, rfl⟩; have hex := ex.below; have hexz := ex.size; (try simp at hexz); (try (have hy0 : w.heap.size < ex.to.heap.size := by omega)); (try (have hy1 : w.heap.size + 1 < ex.to.heap.size := by omega)); (try (have hy2 : w.heap.size + 2 < ex.to.heap.size := by omega)))
            go_wp2
            go_ret3
            rw [HE.out, HO.out]
            exact ⟨DecRet.err, hw2.trans (ex.below.mono hw2.size)⟩
        · have tz : (x0 != z0) = true := by simp [hz]
          have hE : decodeErr s wo ks ds d l = 8 := by rw [Hst2.out, if_pos (by simpa using hz)]
          have HO := Lib.hid (herr 8 (by omega) hE)
          have HE := Lib.hid hE
          clear hE hz
          go_enter Try.func28, Try.ntmps28
          go_wp2_with (go_at_call 24; refine (plainRef_at s wo _ _ _ l (n + 1) cl Hn.out true HP _ (by omega) (by omega) (Hl.out.below (by (repeat (first | exact Below.refl _ _ | refine Below.alloc ?_ (by first | omega | (simp; done) | (simp; omega)) _ | refine Below.drew ?_ | refine Below.setCell ?_ (by first | omega | (simp; done) | (simp; omega)) _ | refine Below.trans ?_ (Below.mono (by assumption) (by first | omega | (simp; done) | (simp; omega))))))) (by omega)).mono ?_; rintro e w1 ⟨rfl, hb1⟩; have hw1 : Below w.heap.size w w1 := Below.trans ((Below.refl _ _).alloc (Nat.le_refl _) _) (hb1.mono (by simp)); obtain ⟨q0, q1, q2, q3⟩ := BookAt.of (hb1.mono (by simp)); have lB := cell_lt q0; simp only at lB; have c0 := below_cell hw1 hc0'; have cn := below_cell hw1 hcn; have lb := cell_lt c0; simp only at lb)
          (refine wp_region_ext 7 (by kernel_rfl) (by kernel_rfl) ?_; simp only [List.take_succ_cons, List.take_zero, List.drop_succ_cons, List.drop_zero]; (repeat (go_big_quiet_step (((go_at_call 63; refine Calls_ext (hind _ (hw1.trans (Below.mono (Ext.below _) hw1.size)))))))); refine wpQuiet_nil ?_; rintro _ ⟨ex, rfl⟩; have hex := ex.below; have hexz := ex.size; (try simp at hexz); (try (have hy0 : w.heap.size < ex.to.heap.size := by omega)); (try (have hy1 : w.heap.size + 1 < ex.to.heap.size := by omega)); (try (have hy2 : w.heap.size + 2 < ex.to.heap.size := by omega)))
          go_wp2
          go_ret3
          rw [HE.out, HO.out]
          exact ⟨DecRet.err, hw1.trans (ex.below.mono hw1.size)⟩
    · have hE : decodeErr s wo ks ds d l = 4 := by rw [Hstep.out, if_pos (.inl (by omega))]
      have HO := Lib.hid (herr 4 (by omega) hE)
      have HE := Lib.hid hE
      clear hE
      go_enter Try.func28, Try.ntmps28
      go_wp2
      go_ret3
      rw [HE.out, HO.out]
      exact ⟨DecRet.err, by (repeat (first | exact Below.refl _ _ | refine Below.alloc ?_ (by first | omega | (simp; done) | (simp; omega)) _ | refine Below.drew ?_ | refine Below.setCell ?_ (by first | omega | (simp; done) | (simp; omega)) _ | refine Below.trans ?_ (Below.mono (by assumption) (by first | omega | (simp; done) | (simp; omega)))))⟩
  · have hE : decodeErr s wo ks ds d l = 4 := by rw [Hstep.out, if_pos (.inl (by omega))]
    have HO := Lib.hid (herr 4 (by omega) hE)
    have HE := Lib.hid hE
    clear hE
    go_enter Try.func28, Try.ntmps28
    go_wp2
    go_ret3
    rw [HE.out, HO.out]
    exact ⟨DecRet.err, by (repeat (first | exact Below.refl _ _ | refine Below.alloc ?_ (by first | omega | (simp; done) | (simp; omega)) _ | refine Below.drew ?_ | refine Below.setCell ?_ (by first | omega | (simp; done) | (simp; omega)) _ | refine Below.trans ?_ (Below.mono (by assumption) (by first | omega | (simp; done) | (simp; omega)))))⟩
end Go.Proofs.Ytmplgcefhpobgaa
