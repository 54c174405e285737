/- TopGuessed: plain facts on texts sent and read -/
import Derived.Test.YtnofcpihkglmmaaTa
import Derived.Test.YtnofcpihkglmmaaFs
import Derived.Test.YtnofcpihkglmmaaTr
namespace Go.Proofs.Ytnofcpihkglmmaa
set_option linter.unusedVariables false
set_option linter.unusedSimpArgs false
set_option linter.unnecessarySimpa false
open Go.RowKit Go.Flow
/-- The signs of a text of few letters are few. -/
theorem sent_len (SS : List (List UInt8)) (hs : ∀ s ∈ SS, s.length ≤ 4) : ∀ (xs pre : List Int), (sentF SS pre xs).length ≤ 5 * xs.length
  | [], _ => by simp [sentF]
  | x :: xs, pre => by
    have ih := sent_len SS hs xs (pre ++ [x])
    have h1 : (SS.getD x.toNat []).length ≤ 4 := by
      rw [List.getD_eq_getElem?_getD]
      cases h : SS[x.toNat]? with
      | none => simp
      | some s => exact hs s (List.mem_of_getElem? h)
    have h2 : (sgsOf pre (SS.getD x.toNat [])).length ≤ 5 := by
      unfold sgsOf
      split
      · omega
      · rw [List.length_cons]; omega
    rw [sentF, List.length_append, List.length_cons]
    omega
theorem sent_bytes (SS : List (List UInt8)) (hs : ∀ s ∈ SS, ∀ b ∈ s, b = 46 ∨ b = 45 ∨ b = 32) : ∀ (xs pre : List Int), ∀ b ∈ sentF SS pre xs, b = 46 ∨ b = 45 ∨ b = 32
  | [], _, b, hb => by simp [sentF] at hb
  | x :: xs, pre, b, hb => by
    rw [sentF] at hb
    rcases List.mem_append.1 hb with h | h
    · have h1 : ∀ b ∈ SS.getD x.toNat [], b = 46 ∨ b = 45 ∨ b = 32 := by
        rw [List.getD_eq_getElem?_getD]
        cases h : SS[x.toNat]? with
        | none => intro b hb; simp at hb
        | some s => exact hs s (List.mem_of_getElem? h)
      unfold sgsOf at h
      split at h
      · exact h1 b h
      · rcases List.mem_cons.1 h with h | h
        · exact .inr (.inr h)
        · exact h1 b h
    · exact sent_bytes SS hs xs _ b h
theorem der_bytes {s r : List UInt8} {e : Nat} (h : Der s r e) (hs : ∀ b ∈ s, b = 46 ∨ b = 45 ∨ b = 32) : ∀ b ∈ r, b = 46 ∨ b = 45 ∨ b = 32 := by
  induction h with
  | nil => intro b hb; cases hb
  | copy x h ih =>
    intro b hb
    rcases List.mem_append.1 hb with h | h
    · exact ih (fun b hb => hs b (List.mem_append_left _ hb)) b h
    · exact hs b (List.mem_append_right _ h)
  | miss x h ih => exact ih (fun b hb => hs b (List.mem_append_left _ hb))
  | split h ih =>
    intro b hb
    rcases List.mem_append.1 hb with h | h
    · exact ih (fun b hb => hs b (List.mem_append_left _ hb)) b h
    · simp at h; exact .inl h
  | join h ih =>
    intro b hb
    rcases List.mem_append.1 hb with h | h
    · exact ih (fun b hb => hs b (List.mem_append_left _ hb)) b h
    · simp at h; exact .inr (.inl h)
  | gap h ih =>
    intro b hb
    rcases List.mem_append.1 hb with h | h
    · exact ih hs b h
    · simp at h; exact .inr (.inr h)
theorem code_bytes {ss : List ByteArray} (ok : CodeOk ss) : (∀ s ∈ ss.map (fun x => x.data.toList), s.length ≤ 4) ∧ ∀ s ∈ ss.map (fun x => x.data.toList), ∀ b ∈ s, b = 46 ∨ b = 45 ∨ b = 32 := by
  constructor
  · intro s hs
    obtain ⟨x, hx, rfl⟩ := List.mem_map.1 hs
    have := (ok.size x hx).2
    rw [Array.length_toList]; exact this
  · intro s hs b hb
    obtain ⟨x, hx, rfl⟩ := List.mem_map.1 hs
    have := ok.letters x hx
    unfold letterB at this
    rw [Bool.and_eq_true] at this
    have := List.all_eq_true.1 this.2 b hb
    simp at this
    rcases this with h | h
    · exact .inl h
    · exact .inr (.inl h)
theorem der_len {s r : List UInt8} {e : Nat} (h : Der s r e) : r.length ≤ s.length + e := by
  induction h <;> simp <;> omega
theorem add_range (L : List UInt8) (errs : Int) (SS : List (List UInt8)) : ∀ (m : Nat) (pre : List Int) (r : Nat → Int), (∀ x ∈ pre, 0 ≤ x ∧ x < (SS.length : Int)) → ∀ t ∈ addF L errs SS m pre r, ∀ x ∈ t, 0 ≤ x ∧ x < (SS.length : Int)
  | 0, pre, r, hp, t, ht => by
    rw [addF] at ht
    split at ht
    · cases ht
    · split at ht
      · simp at ht; rw [ht]; exact hp
      · cases ht
  | m + 1, pre, r, hp, t, ht => by
    rw [addF] at ht
    split at ht
    · cases ht
    · obtain ⟨i, hir, hi⟩ := List.mem_flatMap.1 ht
      have hil := List.mem_range.1 hir
      exact add_range L errs SS m _ _ (fun x hx => by
        rcases List.mem_append.1 hx with h | h
        · exact hp x h
        · simp at h; omega) t hi
theorem texts_range (L : List UInt8) (errs : Int) (SS : List (List UInt8)) (n : Nat) : ∀ t ∈ TextsF L errs SS n, ∀ x ∈ t, 0 ≤ x ∧ x < (SS.length : Int) := fun t ht => by
  obtain ⟨m, _, h⟩ := List.mem_flatMap.1 ht
  exact add_range L errs SS m [] _ (fun x hx => by cases hx) t h
/-- A row of digits, a text, a text read. -/
def SpV (n m P : Nat) (v : Value) (w : World) : Prop := ∃ g, v = .slice (some ⟨g, 0, none⟩) P P ∧ IntsAt w (some ⟨g, 0, none⟩) (lowF n m P)
theorem SpV.kept {n m P : Nat} {v : Value} {w w' : World} (h : SpV n m P v w) (hb : Below w.heap.size w w') : SpV n m P v w' := let ⟨g, h1, h2⟩ := h; ⟨g, h1, h2.below hb⟩
def StrP (Q : List UInt8 → Prop) (v : Value) (_ : World) : Prop := ∃ Z : ByteArray, v = .string Z ∧ Q Z.data.toList
def MisP (Q : List UInt8 → Prop) (v : Value) (_ : World) : Prop := ∃ (Z : ByteArray) (a : Option Addr) (k c : Nat), v = .tuple #[.string Z, .slice a k c] ∧ Q Z.data.toList
def AnyV (_ : Value) (_ : World) : Prop := True
theorem StrP.kept {Q : List UInt8 → Prop} {v : Value} {w w' : World} (h : StrP Q v w) (_ : Below w.heap.size w w') : StrP Q v w' := h
theorem MisP.kept {Q : List UInt8 → Prop} {v : Value} {w w' : World} (h : MisP Q v w) (_ : Below w.heap.size w w') : MisP Q v w' := h
theorem AnyV.kept {v : Value} {w w' : World} (h : AnyV v w) (_ : Below w.heap.size w w') : AnyV v w' := h
theorem signs_low (a : Option Addr) (ss : List ByteArray) (c g m P : Nat) (w : World) (hx : StrsAt w a ss) (h3 : 3 ≤ ss.length) (hP : P ≤ 4) (HC : Hid (CodeOk ss)) (ht : IntsAt w (some ⟨g, 0, none⟩) (lowF ss.length m P)) :
    Calls Try.prog 26 #[.agg #[.slice a ss.length c], .slice (some ⟨g, 0, none⟩) P P] w fun e w' => ∃ Z : ByteArray, (e = .returned (.string Z) ∧ Z.data.toList = sentF (ss.map fun x => x.data.toList) [] (lowF ss.length m P)) ∧ Below w.heap.size w w' := by
  have h := f2Signs a ss c (some ⟨g, 0, none⟩) (lowF ss.length m P) P (ss.map fun x => x.data.toList) rfl w hx ht (by rw [lowF_len]; omega) (lowF_b ss.length m (by omega) P) (fun x hxm => by have := (HC.out.size x hxm).2; omega)
  rw [lowF_len] at h
  exact h
theorem sent_low_len {ss : List ByteArray} (ok : CodeOk ss) (m P : Nat) : (sentF (ss.map fun x => x.data.toList) [] (lowF ss.length m P)).length ≤ 5 * P := by
  have h := sent_len _ (code_bytes ok).1 (lowF ss.length m P) []
  rw [lowF_len] at h; exact h
end Go.Proofs.Ytnofcpihkglmmaa
