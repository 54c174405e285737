/- appends onto nil inside a drawn region -/
import Derived.Test.YticjeianiahppaaGreatDoorBA
namespace Go.Proofs.YticjeianiahppaaGreatDoor
set_option linter.unusedVariables false
set_option linter.unusedSimpArgs false
set_option linter.unnecessarySimpa false
open Go.RowKit Go.Flow
section
variable {P : Program} {t E : TypeId} {z : Value} {size bytes : Nat}
theorem gives_appn {o : Oper} {a : Act} (el : Elem P t E z size bytes) (w : World) (base : Nat) (hbase : base ≤ w.heap.size) (s x : Operand) (ho : o.op = .call { callee := .builtin .append, args := #[s, x], argTypes := #[t, t] })
    (hs : a.eval s = .slice none 0 0) (ao : Option Addr) (m c : Nat) (news : List Value) (hx : a.eval x = .slice ao m c) (hnone : ao = none → m = 0 ∧ c = 0)
    (hl : news.length = m * size) (hsrc : SrcAt w ao news) (h1 : ∀ u ∈ news, u.oneCell' = true) (h63 : m ≤ maxLen) (hbytes : m * bytes ≤ 140737488355328) :
    o.gives P a w fun v w' => Below w.heap.size w w' ∧ OwnV E size base m news v w' := by
  obtain ⟨i, hi, hz0, hz1, hz2⟩ := el.info
  have hrun : ∃ v w', (Builtin.append_ #[t, t] o.type #[.slice none 0 0, .slice ao m c]).run P w = .ok v w' ∧ OwnV E size w.heap.size m news v w' ∧ Below w.heap.size w w' := by
    cases ao with
    | none =>
      obtain ⟨rfl, rfl⟩ := hnone rfl
      have hn0 : news = [] := List.eq_nil_of_length_eq_zero (by simpa using hl)
      subst hn0
      have hrun := run_append_owned_none (P := P) (w := w) w.heap.size t o.type E i size el.slice hi _ 0 [] (OwnL.nil E size w.heap.size w)
      exact ⟨_, _, hrun, ⟨none, 0, rfl, OwnL.nil _ _ _ _⟩, Below.refl _ _⟩
    | some ad =>
      have hnews : ∀ j u, news[j]? = some u → w.cell? (ad.add j) = some u := fun j u hu => by
        obtain ⟨b, off, ha, hc⟩ := hsrc j u hu
        obtain rfl := Option.some.inj ha
        rw [addr_add]; exact hc
      obtain ⟨v', w', h2, h3, h4, _⟩ := run_append_own (P := P) (w := w) w.heap.size t o.type E i z size bytes el.slice hi hz0 hz1 hz2 el.cells el.pos (.slice none 0 0) 0 [] (OwnL.nil E size w.heap.size w) ad m c news hl hnews h1 (by omega) (by rw [Nat.zero_add]; exact hbytes) (Nat.le_refl _)
      rw [Nat.zero_add, List.nil_append] at h3
      have hv : ∃ a' c', v' = .slice a' m c' := by
        rcases h3.2 with ⟨rfl, hnm⟩ | ⟨g, cap, cur, rfl, _⟩
        · exact ⟨none, 0, by rw [hnm]⟩
        · exact ⟨_, _, rfl⟩
      obtain ⟨a', c', rfl⟩ := hv
      exact ⟨_, w', h2, ⟨a', c', rfl, h3⟩, zAz (OwnL.nil E size w.heap.size w) (Nat.le_refl _) h4⟩
  obtain ⟨v, w', h1, h2, h3⟩ := hrun
  unfold Oper.gives
  simp only [execOp, ho, resolve, invoke, builtin, Sem.run_bind, Sem.run_pure, Result.andThen_ok, List.map_toArray, List.map_cons, List.map_nil, hs, hx, h1, Oper.givesUpon]
  exact ⟨h3, let ⟨a', c', e1, o⟩ := h2; ⟨a', c', e1, o.base_le hbase⟩⟩
theorem gives_app_own {o : Oper} {a : Act} (el : Elem P t E z size bytes) (w : World) (base : Nat) (hbase : base ≤ w.heap.size) (s x : Operand) (ho : o.op = .call { callee := .builtin .append, args := #[s, x], argTypes := #[t, t] })
    (a0 : Option Addr) (n c0 : Nat) (xs : List Value) (hs : a.eval s = .slice a0 n c0) (hown : OwnL E size base w a0 c0 n xs) (ao : Option Addr) (m c : Nat) (news : List Value) (hx : a.eval x = .slice ao m c) (hnone : ao = none → m = 0 ∧ c = 0)
    (hl : news.length = m * size) (hsrc : SrcAt w ao news) (h1 : ∀ u ∈ news, u.oneCell' = true) (h63 : n + m ≤ maxLen) (hbytes : (n + m) * bytes ≤ 140737488355328) :
    o.gives P a w fun v w' => Below base w w' ∧ OwnV E size base (n + m) (xs ++ news) v w' := by
  obtain ⟨i, hi, hz0, hz1, hz2⟩ := el.info
  have hrun : ∃ v w', (Builtin.append_ #[t, t] o.type #[.slice a0 n c0, .slice ao m c]).run P w = .ok v w' ∧ OwnV E size base (n + m) (xs ++ news) v w' ∧ Below base w w' := by
    cases ao with
    | none =>
      obtain ⟨rfl, rfl⟩ := hnone rfl
      have hn0 : news = [] := List.eq_nil_of_length_eq_zero (by simpa using hl)
      subst hn0
      have hrun := run_append_owned_none (P := P) (w := w) base t o.type E i size el.slice hi _ n xs hown
      exact ⟨_, _, hrun, ⟨a0, c0, by rw [Nat.add_zero], by rw [Nat.add_zero, List.append_nil]; exact hown⟩, Below.refl _ _⟩
    | some ad =>
      have hnews : ∀ j u, news[j]? = some u → w.cell? (ad.add j) = some u := fun j u hu => by
        obtain ⟨b, off, ha, hc⟩ := hsrc j u hu
        obtain rfl := Option.some.inj ha
        rw [addr_add]; exact hc
      obtain ⟨v', w', h2, h3, h4, _⟩ := run_append_own (P := P) (w := w) base t o.type E i z size bytes el.slice hi hz0 hz1 hz2 el.cells el.pos (.slice a0 n c0) n xs hown ad m c news hl hnews h1 h63 hbytes hbase
      have hv : ∃ a' c', v' = .slice a' (n + m) c' := by
        rcases h3.2 with ⟨rfl, hnm⟩ | ⟨g, cap, cur, rfl, _⟩
        · exact ⟨none, 0, by rw [hnm]⟩
        · exact ⟨_, _, rfl⟩
      obtain ⟨a', c', rfl⟩ := hv
      exact ⟨_, w', h2, ⟨a', c', rfl, h3⟩, zAz hown hbase h4⟩
  obtain ⟨v, w', h1, h2, h3⟩ := hrun
  unfold Oper.gives
  simp only [execOp, ho, resolve, invoke, builtin, Sem.run_bind, Sem.run_pure, Result.andThen_ok, List.map_toArray, List.map_cons, List.map_nil, hs, hx, h1, Oper.givesUpon]
  exact ⟨h3, h2⟩
end
end Go.Proofs.YticjeianiahppaaGreatDoor
