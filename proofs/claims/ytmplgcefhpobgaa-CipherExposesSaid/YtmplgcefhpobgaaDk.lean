/- cipher: the reference's Exposed -/
import Derived.Test.YtmplgcefhpobgaaDh
namespace Go.Proofs.Ytmplgcefhpobgaa
set_option linter.unusedVariables false
set_option linter.unusedSimpArgs false
set_option linter.unnecessarySimpa false
open Go.RowKit Go.Flow

theorem hadStep_b (key f : Int) (l : Int × Int) (N : Int) (hf : f = -1 ∨ (0 ≤ f ∧ f ≤ N)) (hl : 0 ≤ l.2 ∧ l.2 ≤ N) : hadStep key f l = -1 ∨ (0 ≤ hadStep key f l ∧ hadStep key f l ≤ N) := by
  unfold hadStep
  split
  · exact .inr hl
  · exact hf
theorem hadN_foldB (key N : Int) : ∀ (l : List (Int × Int)) (f : Int), (f = -1 ∨ (0 ≤ f ∧ f ≤ N)) → (∀ x ∈ l, 0 ≤ x.2 ∧ x.2 ≤ N) → l.foldl (hadStep key) f = -1 ∨ (0 ≤ l.foldl (hadStep key) f ∧ l.foldl (hadStep key) f ≤ N)
  | [], f, hf, _ => hf
  | x :: l, f, hf, h => hadN_foldB key N l _ (hadStep_b key f x N hf (h x (List.mem_cons_self ..))) (fun y hy => h y (List.mem_cons_of_mem _ hy))
theorem hadN_b {l : List (Int × Int)} {key N : Int} (h : ∀ x ∈ l, 0 ≤ x.2 ∧ x.2 ≤ N) : hadN l key = -1 ∨ (0 ≤ hadN l key ∧ hadN l key ≤ N) := hadN_foldB key N l (-1) (.inl rfl) h
theorem hadB_fold (key day : Int) : ∀ (l : List (Int × Int)) (f : Int), (f = -1 ∨ 0 ≤ f) → (∀ x ∈ l, 0 ≤ x.2) →
    ((l.any fun x => x.1 == key && decide (x.2 ≤ day)) = true ∨ (f ≠ -1 ∧ f ≤ day) ↔ l.foldl (hadStep key) f ≠ -1 ∧ l.foldl (hadStep key) f ≤ day)
  | [], f, _, _ => by simp
  | x :: l, f, hf, h => by
    have hx := h x (List.mem_cons_self ..)
    have hs : hadStep key f x = -1 ∨ 0 ≤ hadStep key f x := by
      unfold hadStep; split
      · exact .inr hx
      · exact hf
    rw [List.foldl_cons, ← hadB_fold key day l _ hs (fun y hy => h y (List.mem_cons_of_mem _ hy)), List.any_cons]
    unfold hadStep
    simp only [Bool.or_eq_true, Bool.and_eq_true, beq_iff_eq, decide_eq_true_eq]
    by_cases h1 : x.1 = key
    · by_cases h2 : f = -1 ∨ x.2 < f
      · rw [if_pos (by simpa [h1] using h2)]
        constructor
        · rintro ((h3 | h3) | h3)
          · right; omega
          · left; exact h3
          · right; omega
        · rintro (h3 | h3)
          · left; right; exact h3
          · left; left; exact ⟨h1, h3.2⟩
      · rw [if_neg (by simpa [h1] using h2)]
        constructor
        · rintro ((h3 | h3) | h3)
          · right; omega
          · left; exact h3
          · right; exact h3
        · rintro (h3 | h3)
          · left; right; exact h3
          · right; exact h3
    · rw [if_neg (by simp [h1])]
      constructor
      · rintro ((h3 | h3) | h3)
        · exact absurd h3.1 h1
        · left; exact h3
        · right; exact h3
      · rintro (h3 | h3)
        · left; right; exact h3
        · right; exact h3
theorem hadB_iff {l : List (Int × Int)} {key day : Int} (h : ∀ x ∈ l, 0 ≤ x.2) : hadB l key day = true ↔ hadN l key ≠ -1 ∧ hadN l key ≤ day := by
  have := hadB_fold key day l (-1) (.inl rfl) h
  unfold hadB hadN
  rw [← this]
  simp

/-- what the inner loop has when the days above e are over -/
def fromE (f : Int) (N e : Int) : Int := if f = -1 ∨ N < max f (e + 1) then -1 else max f (e + 1)

set_option maxRecDepth 100000 in
set_option maxHeartbeats 4000000 in
theorem refExposed_any (s wo : Int) (ak : Option Addr) (ks : List (Int × Int × Int)) (ck : Nat) (ad : Option Addr) (ds : List Int) (cd : Nat) (al : Option Addr) (lost : List (Int × Int)) (cl : Nat) (w : World) (hk : Recs3At w ak ks) (hd : IntsAt w ad ds) (lk : ks.length ≤ 1000) (ld : ds.length ≤ 1000) (hl : Recs2At w al lost) (ll : lost.length ≤ 1000) (hok : lossErr s wo ks ds lost = 0) :
    Calls Try.prog 32 #[.agg #[.int .i64 s, .int .i64 wo, .slice ak ks.length ck, .slice ad ds.length cd], .slice al lost.length cl] w fun e w' => (∃ a c, e = .returned (.slice a (expRes ds lost).length c) ∧ IntsAt w' a (expRes ds lost)) ∧ Below w.heap.size w w' := by
  obtain ⟨hbk, _, hlo⟩ := lossErr_ok hok
  obtain ⟨lk5, ld8, _⟩ := bookErr_ok hbk
  have hlB : ∀ x ∈ lost, 0 ≤ x.2 ∧ x.2 ≤ (ds.length : Int) - 1 := fun x hx => by have := List.all_eq_true.1 hlo x hx; simp [lossOk, ownOk] at this; omega
  obtain ⟨F, hF⟩ : ∃ F : Nat → Int, (fun i : Nat => fromN lost (ds.getD i 0) i) = F := ⟨_, rfl⟩
  have HF : Hid (∀ (k : Nat) (h : k < ds.length), fromN lost ds[k] k = F k) := Lib.hid (fun k h => by rw [← hF]; simp [h])
  have hres : expRes ds lost = upTo F ds.length := by unfold expRes; rw [hF]
  have Hres := Lib.hid hres
  have HlB := Lib.hid hlB
  clear hres hF hok hbk hlo hlB
  go_enter Try.func32, Try.ntmps32
  go_wp2
  obtain ⟨W0, hW0⟩ : ∃ x : World, x = w.alloc (.cells #[.int .i64 s, .int .i64 wo, .slice ak ks.length ck, .slice ad ds.length cd] 25) := ⟨_, rfl⟩
  have hb0 : Below w.heap.size w W0 := by rw [hW0]; (repeat (first | exact Below.refl _ _ | refine Below.alloc ?_ (by first | omega | (simp; done) | (simp; omega)) _ | refine Below.drew ?_ | refine Below.setCell ?_ (by first | omega | (simp; done) | (simp; omega)) _ | refine Below.trans ?_ (Below.mono (by assumption) (by first | omega | (simp; done) | (simp; omega)))))
  have hB0 : BookAt W0 w.heap.size s wo ak ks.length ck ad ds.length cd := by rw [hW0]; exact BookAt.new _ _ _ _ _ _ _ _ _ _
  rw [← hW0]
  clear hW0
  go_loopw [5, 6, 7, 8] (fun v i _ _ wr => ∃ (k : Nat) (a' : Option Addr) (c' : Nat), k ≤ ds.length ∧ i = .int .i64 k ∧ v = .slice a' k c' ∧ OwnL 3 1 W0.heap.size wr a' c' k ((upTo F k).map (Value.int .i64)) ∧ Below W0.heap.size W0 wr) (fun _ i _ _ _ => ds.length - (intOf i).toNat)
  case atStart => exact ⟨0, none, 0, Nat.zero_le _, rfl, rfl, OwnL.nil _ _ _ _, Below.refl _ _⟩
  case round =>
    obtain ⟨k, a', c', hkk, rfl, rfl, hown, hbr⟩ := hrel
    have hwr := hb0.trans (hbr.mono hb0.size)
    obtain ⟨q0, q1, q2, q3⟩ := hB0.below hbr
    have lB := cell_lt q0
    simp only at lB
    have hzr := hbr.size
    by_cases hlt : k < ds.length
    · obtain ⟨b, off, rfl, hbl, hc⟩ := (hd.below hwr) k hlt
      have hc' : wr.cell? ⟨b, off + k, none⟩ = some (.int .i64 ds[k]) := hc.trans (by simp [hlt])
      have HFk := Lib.hid (HF.out k hlt)
      obtain ⟨key, hkey⟩ : ∃ key, ds[k] = key := ⟨_, rfl⟩
      rw [hkey] at hc' HFk
      have hhb := hadN_b (l := lost) (key := key) (N := (ds.length : Int) - 1) HlB.out
      have hiff : ∀ e : Int, hadB lost key e = true ↔ hadN lost key ≠ -1 ∧ hadN lost key ≤ e := fun e => hadB_iff (fun x hx => (HlB.out x hx).1)
      obtain ⟨f, hf⟩ : ∃ f, hadN lost key = f := ⟨_, rfl⟩
      rw [hf] at hhb hiff
      have hFk : F k = if f = -1 then -1 else max f k := by rw [← HFk.out]; unfold fromN; rw [hf]
      have HFk2 := Lib.hid hFk
      have Hhb := Lib.hid hhb
      have Hiff := Lib.hid hiff
      clear hc hkey hf hhb hiff hFk
      go_wp2
      obtain ⟨w1, hw1⟩ : ∃ x : World, x = wr := ⟨_, rfl⟩
      subst hw1
      go_loop [7, 8] (fun v d => ∃ e : Int, (k : Int) - 1 ≤ e ∧ e ≤ (ds.length : Int) - 1 ∧ d = .int .i64 e ∧ v = .int .i64 (fromE f ((ds.length : Int) - 1) e)) (fun _ d => (intOf d + 1).toNat)
      case atStart => exact ⟨(ds.length : Int) - 1, by omega, by omega, rfl, by unfold fromE; rw [if_pos (by omega)]⟩
      case round =>
        obtain ⟨e, he0, he1, rfl, rfl⟩ := hrel
        by_cases hke : (k : Int) ≤ e
        · have hx := Hiff.out e
          cases hhad : hadB lost key e
          · have hstp : fromE f ((ds.length : Int) - 1) (e - 1) = fromE f ((ds.length : Int) - 1) e := by
              have hno : ¬ (f ≠ -1 ∧ f ≤ e) := fun h => by rw [hx.2 h] at hhad; cases hhad
              have := Hhb.out
              unfold fromE
              by_cases hf1 : f = -1
              · rw [if_pos (.inl hf1), if_pos (.inl hf1)]
              · have : max f (e - 1 + 1) = max f (e + 1) := by omega
                rw [this]
            have Hstp := Lib.hid hstp
            have HH := Lib.hid hhad
            clear hx hhad hstp
            have hcall : ∀ W, Recs2At W al lost → Calls Try.prog 74 #[.slice al lost.length cl, .int .i64 key, .int .i64 e] W fun r w' => r = .returned (.bool false) ∧ W = w' := fun W hW => by rw [← HH.out]; exact refHad_any al lost cl key e W hW ll
            go_wp2_with (go_at_call 74; refine (hcall _ (hl.below hwr)).mono ?_; rintro r _ ⟨rfl, rfl⟩)
            go_round
            case rel => exact ⟨e - 1, by omega, by omega, rfl, by rw [Hstp.out]⟩
            case measure => simp [intOf]; omega
          · have hstp : fromE f ((ds.length : Int) - 1) (e - 1) = e := by
              have h1 := hx.1 hhad
              unfold fromE
              have : max f (e - 1 + 1) = e := by omega
              rw [this, if_neg (by omega)]
            have Hstp := Lib.hid hstp
            have HH := Lib.hid hhad
            clear hx hhad hstp
            have hcall : ∀ W, Recs2At W al lost → Calls Try.prog 74 #[.slice al lost.length cl, .int .i64 key, .int .i64 e] W fun r w' => r = .returned (.bool true) ∧ W = w' := fun W hW => by rw [← HH.out]; exact refHad_any al lost cl key e W hW ll
            go_wp2_with (go_at_call 74; refine (hcall _ (hl.below hwr)).mono ?_; rintro r _ ⟨rfl, rfl⟩)
            go_round
            case rel => exact ⟨e - 1, by omega, by omega, rfl, by rw [Hstp.out]⟩
            case measure => simp [intOf]; omega
        · obtain rfl : e = (k : Int) - 1 := by omega
          have hfin : fromE f ((ds.length : Int) - 1) ((k : Int) - 1) = F k := by
            have := Hhb.out
            rw [HFk2.out]
            unfold fromE
            by_cases hf1 : f = -1
            · rw [if_pos (.inl hf1), if_pos hf1]
            · have e2 : max f ((k : Int) - 1 + 1) = max f k := by omega
              rw [e2, if_neg (by omega), if_neg hf1]
          rw [hfin]
          clear hfin
          go_wp2_with (at_builtin; refine wpList_app_lit elInt rfl _ _ rfl W0.heap.size a' k c' _ rfl hown 1 1 rfl rfl (fun u hu => ?c1) ?c2 ?c3 ?c4 ?_)
          case c1 => simp at hu; subst hu; rfl
          case c2 => unfold maxLen; omega
          case c3 => omega
          intro a2 c2 w2 hown2 hb2
          go_wp2
          go_roundw
          case rel => exact ⟨k + 1, a2, c2, by omega, by go_num, rfl, by rw [upTo_succ, List.map_append]; exact hown2, hbr.trans hb2⟩
          case measure => simp [intOf]; omega
    · obtain rfl : k = ds.length := by omega
      go_wp2
      go_ret
      rw [Hres.out]
      exact ⟨⟨a', c', by rw [upTo_len]; rfl, hown.ints.1⟩, hwr⟩
end Go.Proofs.Ytmplgcefhpobgaa
