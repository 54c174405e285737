/- cipher: the reference's Decode -/
import Derived.Test.YtmplgcefhpobgaaDh
import Derived.Test.YtmplgcefhpobgaaMa
import Derived.Maps.AppendAt
namespace Go.Proofs.Ytmplgcefhpobgaa
set_option linter.unusedVariables false
set_option linter.unusedSimpArgs false
set_option linter.unnecessarySimpa false
open Go.RowKit Go.Flow

set_option maxHeartbeats 2000000 in
theorem means_any (s wo m a st c i : Int) (ks ds : Value) (w : World) (hs : isPrime s = true) (m0 : 1 ≤ m) (m1 : m < s) (a0 : 0 ≤ a) (a1 : a < s) (st0 : 0 ≤ st) (st1 : st < s) (c0 : 0 ≤ c) (c1 : c < s) (i0 : 0 ≤ i) (i1 : i ≤ 1000) :
    Calls Try.prog 70 #[.agg #[.int .i64 s, .int .i64 wo, ks, ds], .agg #[.int .i64 m, .int .i64 a, .int .i64 st], .int .i64 c, .int .i64 i] w fun e w' => e = .returned (.int .i64 (decodeN s m a st c i)) ∧ Below w.heap.size w w' := by
  obtain ⟨s0, s1⟩ := isPrime_b hs
  have hD := decode_b (s := s) (m := m) (a := a) (st := st) (c := c) (i := i) (by omega)
  have hiff : ∀ n : Int, 0 ≤ n → n < s → (codeN s m a st n i = c ↔ n = decodeN s m a st c i) := fun n n0 n1 => code_iff hs m0 m1 n0 n1 c0 c1
  obtain ⟨D, hDe⟩ : ∃ D, decodeN s m a st c i = D := ⟨_, rfl⟩
  rw [hDe] at hD hiff
  have HD := Lib.hid hDe
  have Hiff := Lib.hid hiff
  clear hDe hiff hs
  go_enter Try.func70, Try.ntmps70
  go_wp2
  have hb0 : Below w.heap.size w ((w.alloc (.cells #[.int .i64 s, .int .i64 wo, ks, ds] 25)).alloc (.cells #[.int .i64 m, .int .i64 a, .int .i64 st] 82)) := by (repeat (first | exact Below.refl _ _ | refine Below.alloc ?_ (by first | omega | (simp; done) | (simp; omega)) _ | refine Below.drew ?_ | refine Below.setCell ?_ (by first | omega | (simp; done) | (simp; omega)) _ | refine Below.trans ?_ (Below.mono (by assumption) (by first | omega | (simp; done) | (simp; omega)))))
  obtain ⟨W0, hW0⟩ : ∃ x : World, x = (w.alloc (.cells #[.int .i64 s, .int .i64 wo, ks, ds] 25)).alloc (.cells #[.int .i64 m, .int .i64 a, .int .i64 st] 82) := ⟨_, rfl⟩
  have hC1 : Cells W0 w.heap.size #[.int .i64 s, .int .i64 wo, ks, ds] 25 := by rw [hW0]; exact (Cells.new w _ _).below ((Below.refl _ _).alloc (Nat.le_refl _) _)
  have hC2 : Cells W0 (w.heap.size + 1) #[.int .i64 m, .int .i64 a, .int .i64 st] 82 := by
    have := Cells.new (w.alloc (.cells #[.int .i64 s, .int .i64 wo, ks, ds] 25)) #[.int .i64 m, .int .i64 a, .int .i64 st] 82
    rw [hW0]
    simpa using this
  rw [← hW0] at hb0 ⊢
  clear hW0
  go_loopw [9] (fun i' wr => ∃ k : Nat, (k : Int) ≤ D ∧ i' = .int .i64 k ∧ Below W0.heap.size W0 wr) (fun i' _ => D.toNat - (intOf i').toNat)
  case atStart => exact ⟨0, by omega, rfl, Below.refl _ _⟩
  case round =>
    obtain ⟨k, hk, rfl, hbr⟩ := hrel
    have hC1' := hC1.below hbr
    have hC2' := hC2.below hbr
    have g0 := hC1'.cell 0
    have g1 := hC1'.cell 1
    have g2 := hC1'.cell 2
    have g3 := hC1'.cell 3
    have f0 := hC2'.cell 0
    have f1 := hC2'.cell 1
    have f2 := hC2'.cell 2
    have l1 := hC1'.lt
    have l2 := hC2'.lt
    simp at g0 g1 g2 g3 f0 f1 f2
    have hks : (k : Int) < s := by omega
    have hcode := codeOf_any s wo m a st k i ks ds wr (by omega) (by omega) (by omega) (by omega) (by omega) (by omega) (by omega) (by omega) (by omega) (by omega) (by omega) (by omega)
    have hi := Hiff.out k (by omega) hks
    obtain ⟨C, hCe⟩ : ∃ C, codeN s m a st k i = C := ⟨_, rfl⟩
    rw [hCe] at hcode hi
    clear hCe
    by_cases hkD : (k : Int) = D
    · have tC : (C == c) = true := by simpa using hi.2 hkD
      have HkD := Lib.hid hkD
      clear hkD hi
      go_wp2_with (go_at_call 64; refine hcode.mono ?_; rintro e w1 ⟨rfl, hb1⟩)
      go_ret
      rw [HD.out, ← HkD.out]
      exact ⟨rfl, (hb0.trans (hbr.mono hb0.size)).trans (hb1.mono (by have := hb0.size; have := hbr.size; omega))⟩
    · have tC : (C == c) = false := by
        simp only [beq_eq_false_iff_ne]
        exact fun h => hkD (hi.1 h)
      have hkD2 : (k : Int) < D := by omega
      clear hi
      go_wp2_with (go_at_call 64; refine hcode.mono ?_; rintro e w1 ⟨rfl, hb1⟩)
      go_roundw
      case rel => exact ⟨k + 1, by omega, by go_num, hbr.trans (hb1.mono hbr.size)⟩
      case measure => simp [intOf]; omega

section
variable {P : Program} {t E : TypeId} {z : Value} {size bytes : Nat} {ops : Array Oper} {rest : List Oper} {o : Oper} {a : Act} {Q : Exit → Act → World → Prop}
def Apart (a1 a2 : Option Addr) : Prop := ∀ x y, a1 = some x → a2 = some y → x.block ≠ y.block
theorem OwnL.old {E : TypeId} {size base : Nat} {w : World} {a : Option Addr} {c n : Nat} {xs : List Value} (h : OwnL E size base w a c n xs) {x : Addr} (hx : a = some x) : x.block < w.heap.size := by
  rcases h.form with ⟨h1, _⟩ | ⟨g, h1, _, h2, _⟩
  · rw [h1] at hx; cases hx
  · rw [h1] at hx; cases hx; exact h2
/-- 'append(out, x)': where the new row lies. -/
theorem wpList_app_lit_at {W : World} {cs : Array Value} {E2 : TypeId} (el : Elem P t E z size bytes) (hgd : o.guard = none) (s x : Operand) (ho : o.op = .call { callee := .builtin .append, args := #[s, x], argTypes := #[t, t] })
    (base : Nat) (a0 : Option Addr) (n c0 : Nat) (xs : List Value) (hs : a.eval s = .slice a0 n c0) (hown : OwnL E size base W a0 c0 n xs)
    (m c : Nat) (hx : a.eval x = .slice (some ⟨W.heap.size, 0, none⟩) m c) (hl : cs.size = m * size) (h1 : ∀ u ∈ cs.toList, u.oneCell' = true)
    (h63 : n + m ≤ maxLen) (hbytes : (n + m) * bytes ≤ 140737488355328) (hbase : base ≤ W.heap.size)
    (h : ∀ a' c' w', OwnL E size base w' a' c' (n + m) (xs ++ cs.toList) → Below base W w' →
      (∀ {E' : TypeId} {size' base' : Nat} {a2 : Option Addr} {c2 n2 : Nat} {xs2 : List Value}, OwnL E' size' base' W a2 c2 n2 xs2 → Apart a0 a2 → OwnL E' size' base' w' a2 c2 n2 xs2 ∧ Apart a' a2) → wpList P ops Q rest (a.put o.dst (.slice a' (n + m) c')) w') :
    wpList P ops Q (o :: rest) a (W.alloc (.cells cs E2)) := by
  obtain ⟨i, hi, hz0, hz1, hz2⟩ := el.info
  refine wpList_append_own_at _ hgd s x t ho base E i z size bytes el.slice hi hz0 hz1 hz2 el.cells el.pos (.slice a0 n c0) n xs hs (hown.alloc _) ⟨W.heap.size, 0, none⟩ m c cs.toList hx (by simpa using hl) ?_ h1 h63 hbytes (by simp; omega) ?_
  · intro j u hu
    rw [addr_add, World.cell?_alloc_at _ _ _ _ rfl, Nat.zero_add]
    simpa using hu
  · intro v' w' h2 h3 h4 h5
    have hv : ∃ a' c', v' = .slice a' (n + m) c' := by
      rcases h2.2 with ⟨rfl, hnm⟩ | ⟨g, cap, cur, rfl, _⟩
      · exact ⟨none, 0, by rw [hnm]⟩
      · exact ⟨_, _, rfl⟩
    obtain ⟨a', c', rfl⟩ := hv
    refine h a' c' w' h2 (((Below.refl base W).alloc hbase _).trans (below_of_grown (hown.alloc _) (by simp; omega) h3)) ?_
    intro E' size' base' a2 c2 n2 xs2 k2 hap
    refine ⟨(k2.alloc _).grown h3 (fun g hg hg2 => ?_), ?_⟩
    · cases a0 with
      | none => simp [Value.ownBlock] at hg
      | some x0 =>
        cases a2 with
        | none => simp [Value.ownBlock] at hg2
        | some x2 =>
          simp [Value.ownBlock] at hg hg2
          exact hap x0 x2 rfl rfl (by rw [hg, hg2])
    · intro x1 x2 e1 e2
      subst e1 e2
      have hlt := k2.old rfl
      rcases h5 with h5 | h5
      · cases a0 with
        | none => simp [Value.ownBlock] at h5
        | some x0 =>
          simp [Value.ownBlock] at h5
          rw [h5]
          exact hap x0 x2 rfl rfl
      · simp [Value.ownBlock] at h5
        omega
theorem Apart.symm {a1 a2 : Option Addr} (h : Apart a1 a2) : Apart a2 a1 := fun x y h1 h2 e => h y x h2 h1 e.symm
theorem Apart.none (a : Option Addr) : Apart none a := fun _ _ h => by cases h
end
end Go.Proofs.Ytmplgcefhpobgaa
