/- pay: the closure that divides -/
import Derived.Test.YtomjlmhnjgohdaaAv
namespace Go.Proofs.Ytomjlmhnjgohdaa
set_option linter.unusedVariables false
set_option linter.unusedSimpArgs false
set_option linter.unnecessarySimpa false
open Go.RowKit Go.Flow Go.Shelf

theorem bestG_skip (l : List Int) (f : Nat → List Nat) (S u : Nat) (o : List Nat) : ∀ v, u ≤ v → (∀ t, u < t → t ≤ v → candB l S t = false) → bestG l f S v o = bestG l f S u o
  | 0, h, _ => by obtain rfl : u = 0 := by omega
                  rfl
  | v + 1, h, hc => by
    by_cases e : u = v + 1
    · subst e; rfl
    · rw [bestG, hc (v + 1) (by omega) (Nat.le_refl _)]
      simp only [Bool.false_and, Bool.false_eq_true, if_false]
      exact bestG_skip l f S u o v (by omega) (fun t h1 h2 => hc t h1 (by omega))
theorem bestG_next (l : List Int) (f : Nat → List Nat) {S s : Nat} (h : s &&& S = s) (o : List Nat) : bestG l f S (s - 1) o = bestG l f S ((s - 1) &&& S) o :=
  bestG_skip l f S _ o _ (Nat.and_le_left) fun t h1 h2 => by
    cases hc : candB l S t
    · rfl
    · have := sub_next S s t h (candB_iff.1 hc).1 (by omega)
      omega
theorem bestG_at (l : List Int) (f : Nat → List Nat) {S s : Nat} (hs : s ≠ 0) (o : List Nat) : bestG l f S s o = bestG l f S (s - 1) (if candB l S s && decide (o.length < (f (S ^^^ s)).length + 1) then s :: f (S ^^^ s) else o) := by
  obtain ⟨k, rfl⟩ : ∃ k, s = k + 1 := ⟨s - 1, by omega⟩
  rw [bestG]; rfl
theorem Parts.len {l : List Int} : ∀ (P : List Nat) (S : Nat), Parts l S P → P.length ≤ S
  | [], S, _ => Nat.zero_le _
  | s :: P, S, ⟨h1, h2, _, h4⟩ => by
    have := Parts.len P _ h4
    have := xor_lt h1 (ne_of_bit h2)
    simp; omega
theorem grp_len (l : List Int) {S : Nat} (hS : S < 1024) (hz : sumM l S = 0) : (grpF l S).length ≤ S := Parts.len _ _ (grp_parts l S hS hz)
theorem grp_ne (l : List Int) {S : Nat} (hS : S < 1024) (hz : sumM l S = 0) (h0 : S ≠ 0) : grpF l S ≠ [] := fun e => by
  have := grp_parts l S hS hz
  rw [e] at this
  exact h0 this
theorem grp_zero (l : List Int) : grpF l 0 = [] := rfl
theorem and_pow_zero {s f p : Nat} (hp : 2 ^ f = p) : s &&& p = 0 ↔ s.testBit f = false := by
  rw [← hp]
  constructor
  · intro h
    have := Nat.testBit_and s (2 ^ f) f
    rw [h, two_pow_bit] at this
    simpa using this.symm
  · intro h
    apply Nat.eq_of_testBit_eq
    intro i
    rw [Nat.testBit_and, two_pow_bit]
    by_cases e : f = i
    · subst e; simp [h]
    · simp [e]
def setVs (xs : List Nat) : List Value := xs.map fun (S : Nat) => .int .u64 (S : Int)
theorem OwnL.sets {base : Nat} {w : World} {a : Option Addr} {c n : Nat} {xs : List Nat} (h : OwnL 109 1 base w a c n (setVs xs)) : SetsAt w a xs ∧ n = xs.length := by
  have hn : n = xs.length := by have := h.len; simp [setVs] at this; exact this.symm
  refine ⟨fun k hk => ?_, hn⟩
  rcases h.form with ⟨_, _, _, h4⟩ | ⟨g, rfl, _, hlt, _, _, _, hc⟩
  · simp [setVs] at h4; subst h4; simp at hk
  · exact ⟨g, 0, rfl, hlt, by rw [Nat.zero_add]; exact hc k _ (by simp [setVs, hk])⟩
theorem SrcAt.sets {w : World} {a : Option Addr} {xs : List Nat} (h : SetsAt w a xs) : SrcAt w a (setVs xs) := fun j u hu => by
  have hj : j < xs.length := by have := (List.getElem?_eq_some_iff.1 hu).1; simpa [setVs] using this
  obtain ⟨b, off, ha, _, hc⟩ := h j hj
  refine ⟨b, off, ha, ?_⟩
  rw [hc]
  simp [setVs, hj] at hu ⊢
  exact hu
theorem info_set : (Try.prog.info? 109).map (fun i => (i.zero, i.size, i.bytes)) = some (some (.int .u64 0), 1, 8) := by kernel_rfl
theorem elSet : Elem Try.prog 106 109 (.int .u64 0) 1 8 := ⟨Try.underlying106, info_parts info_set, rfl, by decide⟩

/-- What the closure finds in its cells. -/
structure DvAt (w : World) (Bk Bs Bd bm : Nat) (l : List Int) : Prop where
  k : w.cell? ⟨Bk, 0, none⟩ = some (.map (some bm))
  s : ∀ S, S < 2 ^ l.length → w.cell? ⟨Bs, S, none⟩ = some (.int .i64 (sumM l S))
  d : w.cell? ⟨Bd, 0, none⟩ = some (.func (.func 88) #[] #[.pointer (some ⟨Bk, 0, none⟩), .pointer (some ⟨Bs, 0, none⟩), .pointer (some ⟨Bd, 0, none⟩)])
theorem DvAt.keep {w w' : World} {Bk Bs Bd bm b : Nat} {l : List Int} (h : DvAt w Bk Bs Bd bm l) (k : Keep b w w') : DvAt w' Bk Bs Bd bm l := ⟨k.cell h.k, fun S hS => k.cell (h.s S hS), k.cell h.d⟩
theorem DvAt.below {w w' : World} {Bk Bs Bd bm : Nat} {l : List Int} (h : DvAt w Bk Bs Bd bm l) (hb : Below w.heap.size w w') : DvAt w' Bk Bs Bd bm l := ⟨below_cell hb h.k, fun S hS => below_cell hb (h.s S hS), below_cell hb h.d⟩
/-- A list of sets comes back: nil, or a row from its beginning. -/
def RetS (lo : Nat) (e : Ending) (w' : World) (xs : List Nat) : Prop := ∃ a c, e = .returned (.slice a xs.length c) ∧ SetsAt w' a xs ∧ ((xs = [] ∧ a = none ∧ c = 0) ∨ (xs ≠ [] ∧ ∃ g, a = some ⟨g, 0, none⟩ ∧ lo ≤ g))
section
variable (Bk Bs Bd bm lo : Nat) (l : List Int) (hl : l.length ≤ 7)
include hl
set_option maxRecDepth 100000 in
set_option maxHeartbeats 4000000 in
theorem divide_any : ∀ S, S < 2 ^ l.length → sumM l S = 0 → ∀ w, DvAt w Bk Bs Bd bm l → MemoS w bm lo (grpF l) → lo ≤ w.heap.size →
    Calls Try.prog 88 #[.int .u64 (S : Int), .pointer (some ⟨Bk, 0, none⟩), .pointer (some ⟨Bs, 0, none⟩), .pointer (some ⟨Bd, 0, none⟩)] w fun e w' => RetS lo e w' (grpF l S) ∧ Keep bm w w' ∧ MemoS w' bm lo (grpF l) := by
  have h128 : 2 ^ l.length ≤ 128 := Nat.pow_le_pow_right (n := 2) (by omega) hl
  intro S
  induction S using Nat.strongRecOn with
  | _ S ih =>
    intro hS hz w hD hM hlo
    have hS128 : S < 128 := by omega
    have Hih := Lib.hid ih
    have HS := Lib.hid hS
    have H128 := Lib.hid h128
    clear ih hS h128
    by_cases h0 : S = 0
    · subst h0
      rw [grp_zero]
      have e0 : (((0 : Nat) : Int) == 0) = true := rfl
      go_enter Try.func88, Try.ntmps88
      go_wp2
      go_ret
      exact ⟨⟨none, 0, rfl, SetsAt.nil _ _, .inl ⟨rfl, rfl, rfl⟩⟩, Keep.refl hM.isMap, hM⟩
    · have hne := grp_ne l (by omega) hz h0
      have hlen := grp_len l (by omega) hz
      have hb0 : ((S : Int) == 0) = false := by simpa using h0
      obtain ⟨a, m, c, V, hlk, hV⟩ := hM.look hS128
      have k0 := hD.k
      have kl := cell_ltK k0
      cases V
      · have hli := setList_any S w (by omega)
        obtain ⟨hp, hg⟩ := setN_first (S := S) h0 (by omega)
        have hfb := fstB_bit (S := S) h0 (by omega)
        obtain ⟨f, hfe⟩ : ∃ f, fstB S = f := ⟨_, rfl⟩
        rw [hfe] at hg hfb
        have hf10 : f < 10 := by
          rcases Nat.lt_or_ge f 10 with h | h
          · exact h
          · rw [Nat.testBit_lt_two_pow (Nat.lt_of_lt_of_le (show S < 2 ^ 10 by omega) (Nat.pow_le_pow_right (n := 2) (by omega) h))] at hfb
            cases hfb
        obtain ⟨p, hpe⟩ : ∃ p, 2 ^ f = p := ⟨_, rfl⟩
        have hp512 : p ≤ 512 := by rw [← hpe]; have : 2 ^ f ≤ 2 ^ 9 := Nat.pow_le_pow_right (by omega) (by omega); omega
        have wsf : IntKind.u64.wrap (2 ^ f) = (p : Int) := pow_wrap hpe (by omega)
        obtain ⟨q, hq⟩ : ∃ q, setN S 10 = q := ⟨_, rfl⟩
        rw [hq] at hli hp hg
        have Hhz := Lib.hid hz
        have Hg := Lib.hid hg
        have Hfe := Lib.hid hfe
        have Hpe := Lib.hid hpe
        have Hne := Lib.hid hne
        clear hg hq hfe hpe hz hfb hne hV
        go_enter Try.func88, Try.ntmps88
        go_wp2_with fail
        go_at_call 66
        refine hli.mono ?_
        rintro e w1 ⟨⟨ar, cr, rfl, own⟩, b1⟩
        obtain ⟨hi, _⟩ := own.ints
        obtain ⟨b3, o3, h3, l3, c3⟩ := hi 0 hp
        rw [Hg.out, Nat.add_zero] at c3
        subst h3
        have hqI : (0 : Int) < (q.length : Int) := by omega
        have hD1 := hD.below b1
        have hM1 := hM.below b1
        go_wp2
        go_loopw [9, 10, 11] (fun u v _ X => ∃ (s : Nat) (o : List Nat) (ao : Option Addr) (co : Nat), (s &&& S = s) ∧ v = .int .u64 (s : Int) ∧ u = .slice ao o.length co ∧ o.length ≤ 128 ∧ SetsAt X ao o ∧ ((o = [] ∧ ao = none ∧ co = 0) ∨ (o ≠ [] ∧ ∃ g, ao = some ⟨g, 0, none⟩ ∧ lo ≤ g)) ∧ bestG l (grpF l) S s o = grpF l S ∧ Keep bm w1 X ∧ MemoS X bm lo (grpF l)) (fun _ v _ _ => (intOf v).toNat)
        case atStart => exact ⟨S, [], none, 0, by simp, rfl, rfl, by simp, SetsAt.nil _ _, .inl ⟨rfl, rfl, rfl⟩, (grpF_eq l S).symm, Keep.refl hM1.isMap, hM1⟩
        case round =>
          obtain ⟨s, o, ao, co, hs, rfl, rfl, hol, hO, hform, hbg, kp, hMs⟩ := hrel
          have hsS : s ≤ S := by rw [← hs]; exact Nat.and_le_right
          by_cases hs0 : s = 0
          · subst hs0
            have hsb : ((((0 : Nat) : Int)) != 0) = false := rfl
            have hoe : o = grpF l S := hbg
            have Hoe := Lib.hid hoe
            clear hbg hoe
            have hfo : ∃ g, ao = some ⟨g, 0, none⟩ ∧ lo ≤ g := by
              rcases hform with ⟨h, _, _⟩ | ⟨_, h⟩
              · exact absurd (Hoe.out.symm.trans h) Hne.out
              · exact h
            obtain ⟨g, rfl, hglo⟩ := hfo
            clear hform
            have k1 := kp.cell hD1.k
            have kl1 := cell_ltK k1
            have Hlen := Lib.hid (congrArg List.length Hoe.out)
            go_wp2_with (at_mapUpdate; refine wpList_memoS_put hS128 rfl _ _ _ rfl rfl rfl g co (by rw [← Hlen.out]; rfl) (by rw [← Hoe.out]; exact hO) hglo hMs ?_; intro X3 M3 K3)
            go_ret
            have hO3 := hO.keep K3
            rw [← Hoe.out]
            exact ⟨⟨some ⟨g, 0, none⟩, co, rfl, hO3, .inr ⟨by rw [Hoe.out]; exact Hne.out, g, rfl, hglo⟩⟩, ((Keep.of_below hM.isMap b1).trans kp).trans K3, M3⟩
          · have hsb : ((s : Int) != 0) = true := by simpa using hs0
            have hat := bestG_at l (grpF l) (S := S) hs0 o
            have hnx := bestG_next l (grpF l) hs
            have hsd : ((s - 1 : Nat) : Int) = (s : Int) - 1 := by omega
            have wsb : IntKind.u64.wrap ((s : Int) - 1) = ((s - 1 : Nat) : Int) := by rw [← hsd]; exact IntWalk.u64_in _ (by omega)
            have wnd := bits_and_u64_nat (s - 1) S (by omega) (by omega)
            obtain ⟨s2, hs2⟩ : ∃ s2, (s - 1) &&& S = s2 := ⟨_, rfl⟩
            have hs2S : s2 &&& S = s2 := by rw [← hs2]; apply Nat.eq_of_testBit_eq; intro i; simp
            have hs2lt : s2 < s := by
              have : (s - 1) &&& S ≤ s - 1 := Nat.and_le_left
              omega
            have wnp := bits_and_u64_nat s p (by omega) (by omega)
            have htb : (s &&& p = 0) ↔ s.testBit f = false := and_pow_zero Hpe.out
            have k1 := kp.cell hD1.d
            have kl1 := cell_ltK k1
            have ks := kp.cell (hD1.s s (by have := HS.out; omega))
            have ksl := cell_ltK ks
            rw [hs2] at hnx wnd
            rw [hat] at hbg
            have hnx2 := hnx
            have Hbg := Lib.hid hbg
            have Hnx := Lib.hid hnx
            have Hs2 := Lib.hid hs2
            have Hs2S := Lib.hid hs2S
            clear hbg hnx hnx2 hat hs2 hs2S hsd
            have hsI : (s : Int) < 128 := by omega
            have hsN : s < 128 := by omega
            by_cases hbt : s.testBit f = true
            · have hnp : s &&& p ≠ 0 := fun e => by rw [htb.1 e] at hbt; cases hbt
              have ec : (((s &&& p : Nat) : Int) == 0) = false := by simp; omega
              by_cases hv : sumM l s = 0
              · have hcand : candB l S s = true := candB_iff.2 ⟨hs, by rw [Hfe.out]; exact hbt, hv⟩
                rw [hv] at ks
                have wan := bits_andNot_nat S s (by omega) hs
                have hrlt := xor_lt hs hs0
                have hrz : sumM l (S ^^^ s) = 0 := by rw [sumM_xor hs, Hhz.out, hv]; rfl
                have hb2 := Hbg.out
                rw [hcand] at hb2
                obtain ⟨r, hr⟩ : ∃ r, S ^^^ s = r := ⟨_, rfl⟩
                rw [hr] at wan hrlt hrz hb2
                have hdv := Hih.out r hrlt (by have := HS.out; omega) hrz wr (hD1.keep kp) hMs (by have := b1.size; have := kp.size; omega)
                have hrl := grp_len l (S := r) (by omega) hrz
                obtain ⟨x, hx⟩ : ∃ x, grpF l r = x := ⟨_, rfl⟩
                rw [hx] at hdv hrl hb2
                have Hb2 := Lib.hid hb2
                have Hnp := Lib.hid hnp
                clear hb2 hx hr hcand hv hbt hnp htb hrz
                go_wp2_with fail
                refine hdv.mono ?_
                rintro e w3 ⟨⟨a3, c3', rfl, hI3, hf3⟩, k3, M3⟩
                have hO3 := hO.keep k3
                have hxl : x.length ≤ 127 := by omega
                by_cases hgt : o.length < x.length + 1
                · have ed : decide ((o.length : Int) < (x.length : Int) + 1) = true := by simp; omega
                  have hb3 := Hb2.out
                  simp only [Bool.true_and, decide_eq_true_eq] at hb3
                  rw [if_pos hgt, Hnx.out] at hb3
                  have Hb3 := Lib.hid hb3
                  have hn3 : a3 = none → x.length = 0 ∧ c3' = 0 := fun h => by
                    rcases hf3 with ⟨h1, _, h2⟩ | ⟨_, g, h1, _⟩
                    · rw [h1]; exact ⟨rfl, h2⟩
                    · rw [h1] at h; cases h
                  have bl : Below w3.heap.size w3 (w3.alloc (.cells #[.int .u64 (s : Int)] 109)) := (Below.refl _ _).alloc (Nat.le_refl _) _
                  clear hb3 hf3
                  go_wp2_with (at_builtin; refine wpList_app elSet rfl _ _ rfl w3.heap.size _ _ _ _ rfl (OwnL.lit #[.int .u64 (s : Int)] (Nat.le_refl _) (by decide) rfl) a3 x.length c3' (setVs x) rfl hn3 (by simp [setVs]) (SrcAt.sets (hI3.below bl)) (fun u hu => ?c3) (by unfold maxLen; omega) (by omega) (by simp) ?_)
                  case c3 => obtain ⟨z, _, rfl⟩ := List.mem_map.1 hu; rfl
                  intro a9 c9 w9 own9 b9
                  have b39 := bl.trans b9
                  obtain ⟨i9, e9⟩ := OwnL.sets (xs := s :: x) (by simpa [setVs] using own9)
                  have hf9 : (s :: x = [] ∧ a9 = none ∧ c9 = 0) ∨ (s :: x ≠ [] ∧ ∃ g, a9 = some ⟨g, 0, none⟩ ∧ lo ≤ g) := by
                    right
                    refine ⟨by simp, ?_⟩
                    rcases own9.form with ⟨_, _, h, _⟩ | ⟨g, h, hgb, _⟩
                    · omega
                    · exact ⟨g, h, by have := b1.size; have := kp.size; have := k3.size; omega⟩
                  have k9 := (kp.trans k3).below b39
                  have M9 := M3.below b39
                  have hl9 : 1 + x.length = (s :: x).length := by simp; omega
                  have Hl9 := Lib.hid hl9
                  have Hf9 := Lib.hid hf9
                  clear hl9 e9 own9 hf9
                  go_wp2
                  go_roundw
                  case rel => exact ⟨s2, s :: x, a9, c9, Hs2S.out, rfl, by rw [Hl9.out], by simp; omega, i9, Hf9.out, Hb3.out, k9, M9⟩
                  case measure => simp [intOf]; omega
                · have ed : decide ((o.length : Int) < (x.length : Int) + 1) = false := by simp; omega
                  have hb3 := Hb2.out
                  simp only [Bool.true_and, decide_eq_true_eq] at hb3
                  rw [if_neg hgt, Hnx.out] at hb3
                  have Hb3 := Lib.hid hb3
                  clear hb3 hf3
                  go_wp2
                  go_roundw
                  case rel => exact ⟨s2, o, ao, co, Hs2S.out, rfl, rfl, hol, hO3, hform, Hb3.out, kp.trans k3, M3⟩
                  case measure => simp [intOf]; omega
              · have ev : (sumM l s != 0) = true := by simpa using hv
                have hb2 := Hbg.out
                rw [show candB l S s = false by
                  cases hc : candB l S s
                  · rfl
                  · exact absurd (candB_iff.1 hc).2.2 hv] at hb2
                simp only [Bool.false_and, Bool.false_eq_true, if_false] at hb2
                rw [Hnx.out] at hb2
                have Hb2 := Lib.hid hb2
                obtain ⟨v, hve⟩ : ∃ v, sumM l s = v := ⟨_, rfl⟩
                rw [hve] at ks ev
                clear hb2 hv htb hve
                go_wp2
                go_roundw
                case rel => exact ⟨s2, o, ao, co, Hs2S.out, rfl, rfl, hol, hO, hform, Hb2.out, kp, hMs⟩
                case measure => simp [intOf]; omega
            · have hbf : s.testBit f = false := by simpa using hbt
              have hn0 := htb.2 hbf
              rw [hn0] at wnp
              have hb2 := Hbg.out
              rw [show candB l S s = false by
                cases hc : candB l S s
                · rfl
                · have := (candB_iff.1 hc).2.1
                  rw [Hfe.out, hbf] at this; cases this] at hb2
              simp only [Bool.false_and, Bool.false_eq_true, if_false] at hb2
              rw [Hnx.out] at hb2
              have Hb2 := Lib.hid hb2
              clear hb2 hbt hbf hn0 htb
              go_wp2
              go_roundw
              case rel => exact ⟨s2, o, ao, co, Hs2S.out, rfl, rfl, hol, hO, hform, Hb2.out, kp, hMs⟩
              case measure => simp [intOf]; omega
      · obtain ⟨rfl, ⟨g, rfl, hgl⟩, hI⟩ := hV rfl
        obtain ⟨xs, hxs⟩ : ∃ xs, grpF l S = xs := ⟨_, rfl⟩
        rw [hxs] at hI hlk hne ⊢
        have Hne := Lib.hid hne
        have Hxs := Lib.hid hxs
        clear hne hV hxs hlen
        go_enter Try.func88, Try.ntmps88
        go_wp2
        go_ret
        exact ⟨⟨some ⟨g, 0, none⟩, c, rfl, hI, .inr ⟨Hne.out, g, rfl, hgl⟩⟩, Keep.refl hM.isMap, hM⟩
end
end Go.Proofs.Ytomjlmhnjgohdaa
