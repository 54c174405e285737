/- book, laws: fewer words of a dispatch (plain) -/
import Derived.Test.YticjeianiahppaaGreatDoorVy
import Derived.Test.YticjeianiahppaaGreatDoorVf
namespace Go.Proofs.YticjeianiahppaaGreatDoor
set_option linter.unusedVariables false
set_option linter.unusedSimpArgs false
set_option linter.unnecessarySimpa false
open Go.RowKit Go.Flow Pay
/-- Fewer words of a dispatch: the stations are as many, no bounds are wider. -/
theorem words_law {S : BSt} (V : Val S) (F : Few S) {s : ByteArray} {d a b : Int} (h : parseF s = some (.words, [d, a, b])) :
    (lineS S s).ds.length = S.ds.length ∧ (Pay.bdOut (lineS S s).acc).length = (Pay.bdOut S.acc).length ∧ ∀ k, k < (Pay.bdOut S.acc).length → ((Pay.bdOut S.acc).getD k (0, 0)).1 ≤ ((Pay.bdOut (lineS S s).acc).getD k (0, 0)).1 ∧ ((Pay.bdOut (lineS S s).acc).getD k (0, 0)).2 ≤ ((Pay.bdOut S.acc).getD k (0, 0)).2 := by
  have V' := val_line V s
  have F' : Few (lineS S s) := few_play F [s]
  rw [lineS_of h] at *
  by_cases h0 : errL S .words [d, a, b] = 0
  · rw [if_pos h0] at *
    have h1 : errC S .words [d, a, b] = 0 := by
      unfold errL at h0
      split at h0
      · rename_i h1; exact h1
      · rename_i h1; exact absurd h0 h1
    have hc := chain_ok (l := [(idxB d S.ds.length, 7), (decide ((disOf S d).lo ≤ a) && decide (a ≤ b) && decide (b ≤ (disOf S d).hi), 2)]) (by simp) h1
    have hc1 := hc _ List.mem_cons_self
    have hc2 := hc _ (List.mem_cons_of_mem _ List.mem_cons_self)
    simp [idxB] at hc1 hc2
    have G := good_of (V.paid F)
    have G' := good_of (V'.paid F')
    have hl : (nxtC S .words [d, a, b]).ds.length = S.ds.length := putAt_len _ _ _
    have e1 : bdOut S.acc = bdL S.rate S.keeps S.ds 7 := by unfold bdOut; rw [if_pos (V.paid F)]; rfl
    have e2 : bdOut (nxtC S .words [d, a, b]).acc = bdL S.rate S.keeps (nxtC S .words [d, a, b]).ds 7 := by unfold bdOut; rw [if_pos (V'.paid F')]; rfl
    refine ⟨hl, by rw [e1, e2]; simp [bdL], fun k hk => ?_⟩
    rw [e1] at hk
    have hk7 : k < 7 := by simpa [bdL] using hk
    have g : ∀ ds, (bdL S.rate S.keeps ds 7).getD k (0, 0) = (endB S.rate S.keeps ds lowX (k : Int), endB S.rate S.keeps ds highX (k : Int)) := fun ds => by
      unfold bdL
      rw [List.getD_eq_getElem?_getD, List.getElem?_map, List.getElem?_range hk7]; rfl
    rw [e1, e2, g, g]
    have key : ∀ (k : Nat) (h1 : k < S.ds.length) (h2 : k < (nxtC S .words [d, a, b]).ds.length) (s : Int), endV S.rate S.keeps s false S.ds[k] ≤ endV S.rate S.keeps s false (nxtC S .words [d, a, b]).ds[k] ∧ endV S.rate S.keeps s true (nxtC S .words [d, a, b]).ds[k] ≤ endV S.rate S.keeps s true S.ds[k] := fun k h1 h2 s => by
      have e : (nxtC S .words [d, a, b]).ds[k] = if d.toNat = k then (⟨S.ds[k].payer, a, b, S.ds[k].passed⟩ : Dis) else S.ds[k] := by
        have hm : ∀ (m : List Dis) (hm : m = S.ds.modify d.toNat fun x => ⟨x.payer, a, b, x.passed⟩) (hk : k < m.length), m[k] = if d.toNat = k then (⟨S.ds[k].payer, a, b, S.ds[k].passed⟩ : Dis) else S.ds[k] := fun m hm hk => by
          subst hm
          rw [List.getElem_modify]
        exact hm _ rfl h2
      rw [e]
      split
      · rename_i hd
        have hD : disOf S d = S.ds[k] := by unfold disOf; rw [hd, List.getElem?_eq_getElem h1]; rfl
        rw [hD] at hc2
        exact endV_in G.r.1 G.k S.ds[k] (G.p _ (List.getElem_mem h1)) (by omega) (by omega)
      · exact ⟨Int.le_refl _, Int.le_refl _⟩
    exact ⟨end_le G G' false hl.symm fun k h1 h2 => (key k h1 h2 _).1, end_le G' G true hl fun k h1 h2 => (key k h2 h1 _).2⟩
  · rw [if_neg h0]
    exact ⟨rfl, rfl, fun k _ => ⟨Int.le_refl _, Int.le_refl _⟩⟩
end Go.Proofs.YticjeianiahppaaGreatDoor
