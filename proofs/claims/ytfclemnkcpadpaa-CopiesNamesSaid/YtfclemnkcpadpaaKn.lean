/- copies: finish, Hours -/
import Derived.Test.YtfclemnkcpadpaaKm
namespace Go.Proofs.Ytfclemnkcpadpaa
set_option linter.unusedVariables false
set_option linter.unusedSimpArgs false
set_option linter.unnecessarySimpa false
open Go.RowKit Go.Flow Go.Shelf

def IntV (E : Int) (v : Value) (_ : World) : Prop := v = .int .i64 E
theorem IntV.kept {E : Int} {v : Value} {w w' : World} (h : IntV E v w) (_ : Below w.heap.size w w') : IntV E v w' := h
def finN (p : Post) (F : Nat → Int) (k : Nat) : Int := (List.range k).foldl (fun n j => max n (min (F j) (p.sends.getD j 0 + p.pat))) 0
theorem finN_succ (p : Post) (F : Nat → Int) (k : Nat) : finN p F (k + 1) = max (finN p F k) (min (F k) (p.sends.getD k 0 + p.pat)) := by simp [finN, List.range_succ]
set_option maxRecDepth 100000 in
set_option maxHeartbeats 4000000 in
theorem finish_any (a : Option Addr) (c : Nat) (ar : Option Addr) (cr : Nat) (p : Post) (Bw i : Nat) (g : FuncId) (F : Nat → Int) (w : World) (hw : WorkAt p a c ar cr Bw w) (hs : IntsAt w a p.sends) (hi : i < p.sends.length) (n4 : p.sends.length ≤ 4) (hrs : PostHours p)
    (hg : ∀ args w, Sem.run Try.prog (callFunc g args) w = .ok (.enter g args) w)
    (hof : ∀ j, j < p.sends.length → ∀ W, Below w.heap.size w W → Calls Try.prog g #[.pointer (some ⟨Bw, 0, none⟩), .int .i64 j] W fun e w' => e = .returned (.int .i64 (F j)) ∧ Below W.heap.size W w') :
    Calls Try.prog 75 #[.agg #[.func (.func g) #[] #[]], .pointer (some ⟨Bw, 0, none⟩), .int .i64 i] w fun e w' => e = .returned (.int .i64 (finN p F (i + 1))) ∧ Below w.heap.size w w' := by
  obtain ⟨Bm, nm, cW, hH⟩ := hw
  clear hH
  have wb : ∀ o, Below w.heap.size w (w.alloc o) := fun o => (Below.refl _ _).alloc (Nat.le_refl _) _
  have cX : (w.alloc (.cells #[.func (.func g) #[] #[]] 134)).cell? ⟨w.heap.size, 0, none⟩ = some (.func (.func g) #[] #[]) := by rw [World.cell?_alloc_at _ _ _ _ rfl]; rfl
  go_enter Try.func75, Try.ntmps75
  go_wp2
  go_loopw [6, 10] (fun v o wr => ∃ k : Nat, k ≤ i + 1 ∧ o = .int .i64 k ∧ v = .int .i64 (finN p F k) ∧ Below w.heap.size w wr ∧ wr.cell? ⟨w.heap.size, 0, none⟩ = some (.func (.func g) #[] #[])) (fun _ o _ => i + 1 - (intOf o).toNat)
  case atStart => exact ⟨0, Nat.zero_le _, rfl, rfl, wb _, cX⟩
  case round =>
    obtain ⟨k, hk, rfl, rfl, hb, cf⟩ := hrel
    clear cX
    have lf := cell_ltK cf
    by_cases hkl : k < i + 1
    · have cWr := cW.below hb
      have p0 := cWr.cell 0
      have p1 := cWr.cell 1
      have p2 := cWr.cell 2
      have lW := cWr.lt
      simp at p0 p1 p2
      have Hs := Lib.hid (finN_succ p F k)
      have hks : k < p.sends.length := by omega
      have sb := hrs.s _ (List.getElem_mem hks)
      have pb := hrs.p
      have Hg : Hid (p.sends.getD k 0 = p.sends[k]) := Lib.hid (by simp [hks])
      have hdl : ∀ W, Below wr.heap.size wr W → Calls Try.prog 76 #[.agg #[.slice a p.sends.length c, .slice ar p.routes.length cr, .int .i64 p.pat], .int .i64 k] W fun e w' => e = .returned (.int .i64 (p.sends[k] + p.pat)) ∧ Below W.heap.size W w' :=
        fun W b => deadline_any a c ar p.routes.length cr p.sends p.pat k W ((hs.below hb).below b) hks (by omega) (by omega) (by omega)
      have hf := fun W (b : Below wr.heap.size wr W) => hof k hks W (hb.trans (b.mono hb.size))
      obtain ⟨d, hd⟩ : ∃ d, p.sends[k] + p.pat = d := ⟨_, rfl⟩
      obtain ⟨y, hy⟩ : ∃ y, F k = y := ⟨_, rfl⟩
      obtain ⟨m, hm⟩ : ∃ m, finN p F k = m := ⟨_, rfl⟩
      rw [hd] at hdl
      rw [hy] at hf Hs
      rw [hm] at Hs ⊢
      have Hd : Hid (p.sends.getD k 0 + p.pat = d) := Lib.hid (by rw [Hg.out, hd])
      clear hd hy hm hof Hg
      go_wp2
      have hmx : ∀ {A B : Int}, (if A < B then B else A) = max A B := fun {A B} => by split <;> omega
      (refine wp_region_seq 15 [] [15] 30 [true, true, true, true, true, true, true, true, true, true, true, true, false, false, false] [LitV wr.heap.size 2 #[.int .i64 y, .int .i64 d] 3, IntV (min y d), IntV (max m (min y d))] (by kernel_rfl) (by kernel_rfl) rfl (mono_cons (fun v w w' h hb => h.kept hb) (mono_cons (fun v w w' h hb => h.kept hb) (mono_cons (fun v w w' h hb => h.kept hb) mono_nil))) ?_; simp only [pickOps, List.filterMap_cons, List.filterMap_nil, List.getElem?_toArray, List.getElem?_cons_succ, List.getElem?_cons_zero]; (repeat (refine wpFl_step _ rfl (fun w => (by go_simp; rfl)) ?_)); refine wpFl_nil ?_; simp only [maskOps, dummy, Act.put, List.setIfInBounds_toArray, List.set_cons_zero, List.set_cons_succ, List.take_succ_cons, List.take_zero, List.drop_succ_cons, List.drop_zero]; (repeat (refine wpQB_step (fun K hK => ?_); go_simp; first | (refine hK _ ?_; clear hK K) | (apply Exists.intro; refine ⟨fun ex => ?_, hK _ ?_⟩; ((first | (go_at_call 76; exact hdl _ ex.below) | exact hf _ ex.below)); clear hK K))); refine wpQB_nil ?_; simp only [relObl2, under, relEnd, and_true, List.nil_append, List.cons_append])
      refine ⟨⟨?_, ?_, ?_⟩, ?_⟩
      · intro e
        go_simp
        exact ⟨(Below.refl _ _).alloc (Nat.le_refl _) _, e.to.heap.size, rfl, by have := e.size; omega, Cells.new _ _ _⟩
      · intro e v1 h1
        obtain ⟨gg, rfl, _, hgg⟩ := h1 (by kernel_rfl)
        go_simp
        refine (smallest_any _ y d 2 e.to (hgg.ints [y, d] rfl)).mono ?_
        rintro _ _ ⟨rfl, rfl⟩
        exact ⟨Below.refl _ _, rfl⟩
      · intro e v1 h1 v2 h2
        obtain rfl := h2 (by kernel_rfl)
        rcases Int.lt_or_le (min y d) m with hlt | hlt
        · go_simp
          exact ⟨Below.refl _ _, by unfold IntV; first | rfl | (congr 1; done) | (congr 1; omega)⟩
        · go_simp
          exact ⟨Below.refl _ _, by unfold IntV; first | rfl | (congr 1; done) | (congr 1; omega)⟩
      · intro e
        rintro v1 - v2 - v3 h3
        obtain rfl : v3 = .int .i64 (max m (min y d)) := h3
        simp only [Act.put, List.setIfInBounds_toArray, List.set_cons_zero, List.set_cons_succ]
        have heb := e.below
        obtain ⟨w5, hw5⟩ : ∃ x : World, x = e.to := ⟨_, rfl⟩
        rw [← hw5] at heb ⊢
        clear hw5 e hmx
        have cf5 := below_c heb lf cf
        go_wp2
        go_roundw
        case rel => exact ⟨k + 1, by omega, by go_num, by rw [Hs.out, Hd.out], hb.trans (heb.mono hb.size), cf5⟩
        case measure => simp [intOf]; omega
    · obtain rfl : k = i + 1 := by omega
      go_wp2
      go_ret
      exact ⟨rfl, hb⟩
end Go.Proofs.Ytfclemnkcpadpaa
