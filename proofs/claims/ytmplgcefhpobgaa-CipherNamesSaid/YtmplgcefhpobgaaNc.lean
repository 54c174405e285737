/- CipherNames: two drawn regions, over any frame. -/
import Derived.Test.YtmplgcefhpobgaaNb
namespace Go.Proofs.Ytmplgcefhpobgaa
set_option linter.unusedVariables false
set_option linter.unusedSimpArgs false
set_option linter.unnecessarySimpa false
open Go.RowKit Go.Flow

section
variable {P : Program} {ops : Array Oper} {w : World} {m : List Bool} {o : Oper} {l : List Oper} {R : Value → World → Prop} {Rs : List (Value → World → Prop)} {acc : List (Option Tmp × (Value → World → Prop))} {a : Act} {d : Option Tmp} {K : Act → World → Prop} {Q : Act → Prop}
theorem relObl2_t : relObl2 P ops w (true :: m) (o :: l) Rs acc a ↔ relObl2 P ops w m l Rs acc a := ⟨fun h => h, fun h => h⟩
/-- 'gives' behind a wall: nothing looks through it. -/
structure Gv (P : Program) (o : Oper) (a : Act) (w : World) (S : Value → World → Prop) : Prop where
  out : o.gives P a w S
theorem under_mono {K K' : Act → World → Prop} (hk : ∀ a w, K a w → K' a w) : ∀ (acc : List (Option Tmp × (Value → World → Prop))) (a : Act), under ops o acc K a w → under ops o acc K' a w
  | [], a, h => hk a w h
  | (_, _) :: acc, _, h => fun v hv => under_mono hk acc _ (h v hv)
theorem relObl2_f : relObl2 P ops w (false :: m) (o :: l) (R :: Rs) acc a ↔ (∀ e : Ext w, under ops o acc (fun a' w' => Gv P o a' w' fun v w'' => Below w'.heap.size w' w'' ∧ R v w'') a e.to) ∧ relObl2 P ops w m l Rs (acc ++ [(o.dst, R)]) a :=
  ⟨fun h => ⟨fun e => under_mono (fun _ _ h => ⟨h⟩) acc a (h.1 e), h.2⟩, fun h => ⟨fun e => under_mono (fun _ _ h => h.out) acc a (h.1 e), h.2⟩⟩
theorem relObl2_n : relObl2 P ops w [] l Rs acc a ↔ True := ⟨fun _ => trivial, fun _ => by unfold relObl2; trivial⟩
theorem under_c : under ops o ((d, R) :: acc) K a w ↔ ∀ v, (looksB ops o d = true → R v w) → under ops o acc K (a.put d v) w := ⟨fun h => h, fun h => h⟩
theorem under_n : under ops o [] K a w ↔ K a w := ⟨fun h => h, fun h => h⟩
theorem relEnd_t : relEnd Q w (true :: m) (o :: l) Rs a ↔ relEnd Q w m l Rs a := ⟨fun h => h, fun h => h⟩
theorem relEnd_f : relEnd Q w (false :: m) (o :: l) (R :: Rs) a ↔ ∀ v, R v w → relEnd Q w m l Rs (a.put o.dst v) := ⟨fun h => h, fun h => h⟩
structure Wl (p : Prop) : Prop where
  out : p
theorem relEnd_n : relEnd Q w [] l Rs a ↔ Wl (Q a) := ⟨fun h => ⟨by unfold relEnd at h; exact h⟩, fun h => by unfold relEnd; exact h.out⟩
end
/-- The region with a number, out of a body. -/
def regOf (id : Nat) : Code → Option Code
  | .region i ops d => if i = id then some (.region i ops d) else none
  | .loop c => regOf id c
  | .seq a b => match regOf id a with
    | some c => some c
    | none => regOf id b
  | .block _ c => regOf id c
  | .scope c => regOf id c
  | .cond _ a b => match regOf id a with
    | some c => some c
    | none => regOf id b
  | _ => none


set_option maxRecDepth 100000 in
set_option maxHeartbeats 4000000 in
theorem reg18 (Q : Exit → Act → World → Prop) (tm : Array Value) (df : List Deferred) (w : World) (hs : tm.size = 290)
    (h : ∀ v1 v2 v3 v4 v5 v6 a n c w', Below w.heap.size w w' → Q .normal ⟨((((((((((((((((tm.setIfInBounds 169 undef).setIfInBounds 170 undef).setIfInBounds 171 undef).setIfInBounds 168 undef).setIfInBounds 172 undef).setIfInBounds 173 undef).setIfInBounds 16 undef).setIfInBounds 17 undef).setIfInBounds 169 v1).setIfInBounds 170 v2).setIfInBounds 171 v3).setIfInBounds 168 v4).setIfInBounds 172 v5).setIfInBounds 173 v6).setIfInBounds 16 (.slice a n c)).setIfInBounds 17 (.int .i64 3)), df⟩ w') :
    Code.wp Try.prog ((Try.f15.body.bind (regOf 18)).getD .skip) Q ⟨tm, df⟩ w := by
  conv => arg 2; whnf
  (refine wp_region_seq 8 [] [] 290 [false, false, false, false, false, false, false, false] [BookX, IntsX [0, 0, 0, 0, 0, 0, 0, 0, 0, 0, 0], TupE 3, TupE 3, SlE, ErrE 3, SlE, ErrE 3] (by kernel_rfl) (by kernel_rfl) (by simpa using hs) (mono_cons (fun v w w' h hb => h.kept hb) (mono_cons (fun v w w' h hb => h.kept hb) (mono_cons (fun v w w' h hb => h.kept hb) (mono_cons (fun v w w' h hb => h.kept hb) (mono_cons (fun v w w' h hb => h.kept hb) (mono_cons (fun v w w' h hb => h.kept hb) (mono_cons (fun v w w' h hb => h.kept hb) (mono_cons (fun v w w' h hb => h.kept hb) mono_nil)))))))) ?_; simp only [pickOps, List.filterMap_cons, List.filterMap_nil, List.getElem?_toArray, List.getElem?_cons_succ, List.getElem?_cons_zero]; (repeat (refine wpFl_step _ rfl (fun w => (by go_simp; rfl)) ?_)); refine wpFl_nil ?_; simp only [maskOps, dummy, Act.put, List.setIfInBounds_toArray, List.set_cons_zero, List.set_cons_succ, List.take_succ_cons, List.take_zero, List.drop_succ_cons, List.drop_zero]; (repeat (refine wpQB_step (fun K hK => ?_); go_simp; first | (refine hK _ ?_; clear hK K) | (apply Exists.intro; refine ⟨fun ex => ?_, hK _ ?_⟩; (fail); clear hK K))); refine wpQB_nil ?_; simp only [relObl2_t, relObl2_f, relObl2_n, under_c, under_n, relEnd_t, relEnd_f, relEnd_n, and_true, List.nil_append, List.cons_append])
  refine ⟨⟨?_, ?_, ?_, ?_, ?_, ?_, ?_, ?_⟩, ?_⟩
  · intro e
    refine ⟨?_⟩
    go_simp
    refine (bookC_any e.to).mono ?_
    rintro _ _ ⟨⟨g, h, rfl, _, _, kC, dC⟩, b⟩
    exact ⟨b, g, h, rfl, kC.recs3 exKs rfl, dC.ints exDs rfl⟩
  · intro e v1 h1
    have mk := make_ints11 e.to
    rw [nf39] at mk
    refine ⟨?_⟩
    go_simp
    exact ⟨(Below.refl _ _).alloc (Nat.le_refl _) _, _, rfl, ints_lit _ _ _ [0, 0, 0, 0, 0, 0, 0, 0, 0, 0, 0] rfl⟩
  · intro e v1 h1 v2 h2
    obtain ⟨g, h, rfl, k, d⟩ := h1 (by kernel_rfl)
    obtain ⟨a, rfl, i⟩ := h2 (by kernel_rfl)
    refine ⟨?_⟩
    go_simp
    refine (nCode (some ⟨g, 0, none⟩) 2 (some ⟨h, 0, none⟩) 3 0 a [0, 0, 0, 0, 0, 0, 0, 0, 0, 0, 0] 11 11 rfl [] 0 3 nf32 rfl nf17 e.to k d i (by omega)).mono ?_
    rintro _ _ ⟨⟨_, _, rfl, _⟩, b⟩
    exact ⟨b, _, _, _, rfl⟩
  · intro e v1 _ v2 _ v3 h3
    obtain ⟨a, n, c, rfl⟩ := h3 (by kernel_rfl)
    refine ⟨?_⟩
    go_simp
    exact ⟨Below.refl _ _, a, n, c, rfl⟩
  · intro e v1 _ v2 _ v3 _ v4 h4
    obtain ⟨a, n, c, rfl⟩ := h4 (by kernel_rfl)
    refine ⟨?_⟩
    go_simp
    exact ⟨Below.refl _ _, a, n, c, rfl⟩
  · intro e v1 _ v2 _ v3 _ v4 h4 v5 h5
    obtain ⟨a, n, c, rfl⟩ := h4 (by kernel_rfl)
    refine ⟨?_⟩
    go_simp
    exact ⟨Below.refl _ _, rfl⟩
  · intro e v1 _ v2 _ v3 _ v4 h4 v5 h5 v6 h6
    obtain ⟨a, n, c, rfl⟩ := h5 (by kernel_rfl)
    refine ⟨?_⟩
    go_simp
    exact ⟨Below.refl _ _, a, n, c, rfl⟩
  · intro e v1 _ v2 _ v3 _ v4 h4 v5 h5 v6 h6 v7 h7
    obtain rfl := h6 (by kernel_rfl)
    refine ⟨?_⟩
    go_simp
    exact ⟨Below.refl _ _, rfl⟩
  rintro e v1 _ v2 _ v3 _ v4 _ v5 _ v6 _ v7 ⟨a7, n7, c7, rfl⟩ v8 h8
  obtain rfl : v8 = .int .i64 3 := h8
  refine ⟨?_⟩
  simp only [wpList, Exit.then, Act.put]
  exact h v1 v2 v3 v4 v5 v6 a7 n7 c7 e.to e.below

set_option maxRecDepth 100000 in
set_option maxHeartbeats 4000000 in
theorem reg22 (Q : Exit → Act → World → Prop) (tm : Array Value) (df : List Deferred) (w : World) (hs : tm.size = 290)
    (h : ∀ v1 v2 v3 v4 v5 v6 a n c w', Below w.heap.size w w' → Q .normal ⟨((((((((((((((((tm.setIfInBounds 195 undef).setIfInBounds 196 undef).setIfInBounds 197 undef).setIfInBounds 194 undef).setIfInBounds 198 undef).setIfInBounds 199 undef).setIfInBounds 26 undef).setIfInBounds 27 undef).setIfInBounds 195 v1).setIfInBounds 196 v2).setIfInBounds 197 v3).setIfInBounds 194 v4).setIfInBounds 198 v5).setIfInBounds 199 v6).setIfInBounds 26 (.slice a n c)).setIfInBounds 27 (.int .i64 3)), df⟩ w') :
    Code.wp Try.prog ((Try.f15.body.bind (regOf 22)).getD .skip) Q ⟨tm, df⟩ w := by
  conv => arg 2; whnf
  (refine wp_region_seq 8 [] [] 290 [false, false, false, false, false, false, false, false] [BookX, LossX [(0, 0), (0, 0), (0, 0), (0, 0), (0, 0), (0, 0), (0, 0)], TupE 3, TupE 3, SlE, ErrE 3, SlE, ErrE 3] (by kernel_rfl) (by kernel_rfl) (by simpa using hs) (mono_cons (fun v w w' h hb => h.kept hb) (mono_cons (fun v w w' h hb => h.kept hb) (mono_cons (fun v w w' h hb => h.kept hb) (mono_cons (fun v w w' h hb => h.kept hb) (mono_cons (fun v w w' h hb => h.kept hb) (mono_cons (fun v w w' h hb => h.kept hb) (mono_cons (fun v w w' h hb => h.kept hb) (mono_cons (fun v w w' h hb => h.kept hb) mono_nil)))))))) ?_; simp only [pickOps, List.filterMap_cons, List.filterMap_nil, List.getElem?_toArray, List.getElem?_cons_succ, List.getElem?_cons_zero]; (repeat (refine wpFl_step _ rfl (fun w => (by go_simp; rfl)) ?_)); refine wpFl_nil ?_; simp only [maskOps, dummy, Act.put, List.setIfInBounds_toArray, List.set_cons_zero, List.set_cons_succ, List.take_succ_cons, List.take_zero, List.drop_succ_cons, List.drop_zero]; (repeat (refine wpQB_step (fun K hK => ?_); go_simp; first | (refine hK _ ?_; clear hK K) | (apply Exists.intro; refine ⟨fun ex => ?_, hK _ ?_⟩; (fail); clear hK K))); refine wpQB_nil ?_; simp only [relObl2_t, relObl2_f, relObl2_n, under_c, under_n, relEnd_t, relEnd_f, relEnd_n, and_true, List.nil_append, List.cons_append])
  refine ⟨⟨?_, ?_, ?_, ?_, ?_, ?_, ?_, ?_⟩, ?_⟩
  · intro e
    refine ⟨?_⟩
    go_simp
    refine (bookC_any e.to).mono ?_
    rintro _ _ ⟨⟨g, h, rfl, _, _, kC, dC⟩, b⟩
    exact ⟨b, g, h, rfl, kC.recs3 exKs rfl, dC.ints exDs rfl⟩
  · intro e v1 h1
    have mk := make_loss7 e.to
    rw [nf41] at mk
    refine ⟨?_⟩
    go_simp
    exact ⟨(Below.refl _ _).alloc (Nat.le_refl _) _, _, rfl, (Cells.new _ _ _).recs2 [(0, 0), (0, 0), (0, 0), (0, 0), (0, 0), (0, 0), (0, 0)] rfl⟩
  · intro e v1 h1 v2 h2
    obtain ⟨g, h, rfl, k, d⟩ := h1 (by kernel_rfl)
    obtain ⟨a, rfl, i⟩ := h2 (by kernel_rfl)
    refine ⟨?_⟩
    go_simp
    refine (nExp (some ⟨g, 0, none⟩) 2 (some ⟨h, 0, none⟩) 3 a [(0, 0), (0, 0), (0, 0), (0, 0), (0, 0), (0, 0), (0, 0)] 7 rfl 3 nf21 e.to k d i (by omega)).mono ?_
    rintro _ _ ⟨⟨_, _, _, rfl⟩, b⟩
    exact ⟨b, _, _, _, rfl⟩
  · intro e v1 _ v2 _ v3 h3
    obtain ⟨a, n, c, rfl⟩ := h3 (by kernel_rfl)
    refine ⟨?_⟩
    go_simp
    exact ⟨Below.refl _ _, a, n, c, rfl⟩
  · intro e v1 _ v2 _ v3 _ v4 h4
    obtain ⟨a, n, c, rfl⟩ := h4 (by kernel_rfl)
    refine ⟨?_⟩
    go_simp
    exact ⟨Below.refl _ _, a, n, c, rfl⟩
  · intro e v1 _ v2 _ v3 _ v4 h4 v5 h5
    obtain ⟨a, n, c, rfl⟩ := h4 (by kernel_rfl)
    refine ⟨?_⟩
    go_simp
    exact ⟨Below.refl _ _, rfl⟩
  · intro e v1 _ v2 _ v3 _ v4 h4 v5 h5 v6 h6
    obtain ⟨a, n, c, rfl⟩ := h5 (by kernel_rfl)
    refine ⟨?_⟩
    go_simp
    exact ⟨Below.refl _ _, a, n, c, rfl⟩
  · intro e v1 _ v2 _ v3 _ v4 h4 v5 h5 v6 h6 v7 h7
    obtain rfl := h6 (by kernel_rfl)
    refine ⟨?_⟩
    go_simp
    exact ⟨Below.refl _ _, rfl⟩
  rintro e v1 _ v2 _ v3 _ v4 _ v5 _ v6 _ v7 ⟨a7, n7, c7, rfl⟩ v8 h8
  obtain rfl : v8 = .int .i64 3 := h8
  refine ⟨?_⟩
  simp only [wpList, Exit.then, Act.put]
  exact h v1 v2 v3 v4 v5 v6 a7 n7 c7 e.to e.below
end Go.Proofs.Ytmplgcefhpobgaa
