/- pay: the dispatches of an account as values: copied, one of them changed, in another order -/
import Derived.Test.YtaphfibfjepceaaBy
import Derived.Test.YtaphfibfjepceaaBv
namespace Go.Proofs.Ytaphfibfjepceaa
set_option linter.unusedVariables false
set_option linter.unusedSimpArgs false
set_option linter.unnecessarySimpa false
open Go.RowKit Go.Flow Go.Shelf

def DisW (w : World) (vs : List Value) (ds : List Dis) : Prop :=
  vs.length = ds.length * 4 ∧ ∀ k (h : k < ds.length), ∃ al c, vs[k * 4]? = some (.int .i64 ds[k].payer) ∧ vs[k * 4 + 1]? = some (.int .i64 ds[k].lo) ∧ vs[k * 4 + 2]? = some (.int .i64 ds[k].hi) ∧ vs[k * 4 + 3]? = some (.slice al ds[k].passed.length c) ∧ PassAt w al c ds[k].passed
theorem DisW.below {w w' : World} {vs : List Value} {ds : List Dis} (h : DisW w vs ds) (hb : Below w.heap.size w w') : DisW w' vs ds := ⟨h.1, fun k hk =>
  let ⟨al, c, h1, h2, h3, h4, h5⟩ := h.2 k hk
  ⟨al, c, h1, h2, h3, h4, h5.below hb⟩⟩
def disVs (w : World) (b off n : Nat) : List Value := (List.range n).map fun j => (w.cell? ⟨b, off + j, none⟩).getD (.int .i64 0)
theorem disVs_at {w : World} {b off n j : Nat} {v : Value} (hj : j < n) (h : w.cell? ⟨b, off + j, none⟩ = some v) : (disVs w b off n)[j]? = some v := by simp [disVs, hj, h]
theorem dis_vals {w : World} {a : Option Addr} {ds : List Dis} (hd : DisAt w a ds) : ∃ vs, DisW w vs ds ∧ SrcAt w a vs ∧ ∀ u ∈ vs, u.oneCell' = true := by
  rcases Nat.eq_zero_or_pos ds.length with h0 | h0
  · obtain rfl := List.eq_nil_of_length_eq_zero h0
    exact ⟨[], ⟨rfl, fun k hk => absurd hk (Nat.not_lt_zero k)⟩, fun j u hu => by simp at hu, fun u hu => by simp at hu⟩
  · obtain ⟨b, off, _, _, ha, _⟩ := hd 0 h0
    have each : ∀ k (h : k < ds.length), ∃ al c, w.cell? ⟨b, off + k * 4, none⟩ = some (.int .i64 ds[k].payer) ∧ w.cell? ⟨b, off + k * 4 + 1, none⟩ = some (.int .i64 ds[k].lo) ∧ w.cell? ⟨b, off + k * 4 + 2, none⟩ = some (.int .i64 ds[k].hi) ∧ w.cell? ⟨b, off + k * 4 + 3, none⟩ = some (.slice al ds[k].passed.length c) ∧ PassAt w al c ds[k].passed := by
      intro k hk
      obtain ⟨b', off', al, c, ha', _, h1, h2, h3, h4, h5⟩ := hd k hk
      rw [ha] at ha'
      cases ha'
      exact ⟨al, c, h1, h2, h3, h4, h5⟩
    have cell : ∀ j, j < ds.length * 4 → ∃ u, w.cell? ⟨b, off + j, none⟩ = some u ∧ u.oneCell' = true := by
      intro j hj
      obtain ⟨al, c, h1, h2, h3, h4, _⟩ := each (j / 4) (by omega)
      have hm := Nat.mod_lt j (show 0 < 4 by omega)
      have hd := Nat.div_add_mod j 4
      rcases (show j % 4 = 0 ∨ j % 4 = 1 ∨ j % 4 = 2 ∨ j % 4 = 3 by omega) with e | e | e | e
      · refine ⟨_, ?_, (rfl : (Value.int .i64 ds[j / 4].payer).oneCell' = true)⟩
        rw [show off + j = off + j / 4 * 4 by omega]; exact h1
      · refine ⟨_, ?_, (rfl : (Value.int .i64 ds[j / 4].lo).oneCell' = true)⟩
        rw [show off + j = off + j / 4 * 4 + 1 by omega]; exact h2
      · refine ⟨_, ?_, (rfl : (Value.int .i64 ds[j / 4].hi).oneCell' = true)⟩
        rw [show off + j = off + j / 4 * 4 + 2 by omega]; exact h3
      · refine ⟨_, ?_, (rfl : (Value.slice al ds[j / 4].passed.length c).oneCell' = true)⟩
        rw [show off + j = off + j / 4 * 4 + 3 by omega]; exact h4
    refine ⟨disVs w b off (ds.length * 4), ⟨by simp [disVs], fun k hk => ?_⟩, fun j u hu => ?_, fun u hu => ?_⟩
    · obtain ⟨al, c, h1, h2, h3, h4, h5⟩ := each k hk
      exact ⟨al, c, disVs_at (by omega) h1, disVs_at (by omega) (by rw [← Nat.add_assoc]; exact h2), disVs_at (by omega) (by rw [← Nat.add_assoc]; exact h3), disVs_at (by omega) (by rw [← Nat.add_assoc]; exact h4), h5⟩
    · have hj : j < ds.length * 4 := by have := (List.getElem?_eq_some_iff.1 hu).1; simpa [disVs] using this
      obtain ⟨v, hv, _⟩ := cell j hj
      rw [disVs_at hj hv] at hu
      exact ⟨b, off, ha, by rw [hv]; exact hu⟩
    · obtain ⟨j, hj⟩ := List.getElem?_of_mem hu
      have hjl : j < ds.length * 4 := by have := (List.getElem?_eq_some_iff.1 hj).1; simpa [disVs] using this
      obtain ⟨v, hv, h1⟩ := cell j hjl
      rw [disVs_at hjl hv] at hj
      rwa [← Option.some.inj hj]
theorem DisW.dis {w : World} {vs : List Value} {ds : List Dis} (h : DisW w vs ds) {T : TypeId} {base : Nat} {a : Option Addr} {c n : Nat} (ho : OwnL T 4 base w a c n vs) : DisAt w a ds := fun k hk => by
  obtain ⟨al, c', h1, h2, h3, h4, h5⟩ := h.2 k hk
  rcases ho.form with ⟨_, _, _, rfl⟩ | ⟨g, rfl, _, hlt, _, _, _, hc⟩
  · simp at h1
  · exact ⟨g, 0, al, c', rfl, hlt, by rw [Nat.zero_add]; exact hc _ _ h1, by rw [Nat.zero_add]; exact hc _ _ h2, by rw [Nat.zero_add]; exact hc _ _ h3, by rw [Nat.zero_add]; exact hc _ _ h4, h5⟩
theorem DisW.app {w : World} {vs us : List Value} {ds es : List Dis} (h : DisW w vs ds) (h' : DisW w us es) : DisW w (vs ++ us) (ds ++ es) := by
  refine ⟨by rw [List.length_append, List.length_append, h.1, h'.1]; omega, fun k hk => ?_⟩
  have hl := h.1
  rw [List.length_append] at hk
  by_cases e : k < ds.length
  · obtain ⟨al, c, h1, h2, h3, h4, h5⟩ := h.2 k e
    refine ⟨al, c, ?_, ?_, ?_, ?_, ?_⟩
    all_goals (try rw [List.getElem?_append_left (by omega)])
    all_goals (rw [List.getElem_append_left e]; assumption)
  · obtain ⟨r, rfl⟩ : ∃ r, k = ds.length + r := ⟨k - ds.length, by omega⟩
    obtain ⟨al, c, h1, h2, h3, h4, h5⟩ := h'.2 r (by omega)
    have eg : (ds ++ es)[ds.length + r] = es[r]'(by omega) := by rw [List.getElem_append_right (by omega)]; simp
    rw [eg]
    refine ⟨al, c, ?_, ?_, ?_, ?_, h5⟩
    · rw [List.getElem?_append_right (by omega), hl, show (ds.length + r) * 4 - ds.length * 4 = r * 4 by omega]; exact h1
    · rw [List.getElem?_append_right (by omega), hl, show (ds.length + r) * 4 + 1 - ds.length * 4 = r * 4 + 1 by omega]; exact h2
    · rw [List.getElem?_append_right (by omega), hl, show (ds.length + r) * 4 + 2 - ds.length * 4 = r * 4 + 2 by omega]; exact h3
    · rw [List.getElem?_append_right (by omega), hl, show (ds.length + r) * 4 + 3 - ds.length * 4 = r * 4 + 3 by omega]; exact h4
theorem DisAt.take {w : World} {a : Option Addr} {ds : List Dis} (h : DisAt w a ds) (k : Nat) : DisAt w a (ds.take k) := fun j hj => by
  have hj' : j < ds.length := by rw [List.length_take] at hj; omega
  have e : (ds.take k)[j] = ds[j] := List.getElem_take
  rw [e]
  exact h j hj'
theorem DisAt.drop {w : World} {b off : Nat} {ds : List Dis} (h : DisAt w (some ⟨b, off, none⟩) ds) (k : Nat) : DisAt w (some ⟨b, off + k * 4, none⟩) (ds.drop k) := fun j hj => by
  have hj' : k + j < ds.length := by rw [List.length_drop] at hj; omega
  have e : (ds.drop k)[j] = ds[k + j] := List.getElem_drop
  obtain ⟨b', o', al, c, ha, hb, h1, h2, h3, h4, h5⟩ := h (k + j) hj'
  cases ha
  rw [e]
  have es : off + (k + j) * 4 = off + k * 4 + j * 4 := by omega
  rw [es] at h1 h2 h3 h4
  exact ⟨b, off + k * 4, al, c, rfl, hb, h1, h2, h3, h4, h5⟩
theorem PassAt.one {w : World} {al : Option Addr} {c : Nat} {l : List Int} (h : PassAt w al c l) : PassAt w al c (l.take 1) :=
  ⟨fun j hj => by
    have hj' : j < l.length := by rw [List.length_take] at hj; omega
    obtain ⟨b, off, ha, hb, hc⟩ := h.at_ j hj'
    have hj1 : j < 1 := by rw [List.length_take] at hj; omega
    refine ⟨b, off, ha, hb, hc.trans ?_⟩
    congr 2
    simp [List.getElem?_take, hj1], by have := h.le; rw [List.length_take]; omega, h.nil⟩
theorem DisAt.isnil {w : World} {ds : List Dis} (h : DisAt w none ds) : ds = [] := by
  rcases Nat.eq_zero_or_pos ds.length with h0 | h0
  · exact List.eq_nil_of_length_eq_zero h0
  · obtain ⟨_, _, _, _, e, _⟩ := h 0 h0
    cases e
end Go.Proofs.Ytaphfibfjepceaa
