/- copies: search -/
import Derived.Test.YtfclemnkcpadpaaKv
namespace Go.Proofs.Ytfclemnkcpadpaa
set_option linter.unusedVariables false
set_option linter.unusedSimpArgs false
set_option linter.unnecessarySimpa false
open Go.RowKit Go.Flow Go.Shelf

def searchF (p : Post) (l : List Ent) : Option (List Int) := nextR p l p.sends.length 0 0
def SearchPost : Option (List Int) → Ending → World → Prop
  | none, e, _ => e = .returned (.tuple #[.slice none 0 0, .bool false])
  | some z, e, w' => ∃ a c, e = .returned (.tuple #[.slice a z.length c, .bool true]) ∧ IntsAt w' a z

set_option maxRecDepth 100000 in
set_option maxHeartbeats 4000000 in
theorem search_any (p : Post) (l : List Ent) (a : Option Addr) (c : Nat) (ar : Option Addr) (cr Bw : Nat) (al : Option Addr) (cl : Nat) (w : World) (hw : WorkAt p a c ar cr Bw w) (hs : IntsAt w a p.sends) (hr : RoutesAt w ar p.routes) (he : EntsAt w al l) (h0 : postErr p = 0) (ll : l.length ≤ 1000) :
    Calls Try.prog 80 #[.pointer (some ⟨Bw, 0, none⟩), .slice al l.length cl] w fun e w' => SearchPost (searchF p l) e w' ∧ Below w.heap.size w w' := by
  have mk : ∀ W, Sem.run Try.prog (Instr.makeMap 160 none) W = .ok (.map (some W.heap.size)) (W.alloc (.map #[] 0)) := fun W => by kernel_rfl
  obtain ⟨W0, hW0⟩ : ∃ z : World, z = (w.alloc (.cells #[.pointer (some ⟨Bw, 0, none⟩)] 125)).alloc (.cells #[.slice al l.length cl] 36) := ⟨_, rfl⟩
  have b0 : Below w.heap.size w W0 := by rw [hW0]; exact ((Below.refl _ _).alloc (Nat.le_refl _) _).alloc (by simp) _
  have z0 : W0.heap.size = w.heap.size + 1 + 1 := by rw [hW0]; simp
  have S0 : Sta p l a c ar cr Bw al cl w.heap.size (w.heap.size + 1) W0 := by
    refine ⟨hw.below b0, hs.below b0, hr.below b0, he.below b0, ?_, ?_⟩
    · have h : Cells W0 w.heap.size #[.pointer (some ⟨Bw, 0, none⟩)] 125 := by rw [hW0]; exact (Cells.new _ _ _).alloc _
      have := h.cell 0; simpa using this
    · have h : Cells W0 (w.heap.size + 1) #[.slice al l.length cl] 36 := by rw [hW0]; exact Cells.new' _ _ _ _ (by simp)
      have := h.cell 0; simpa using this
  obtain ⟨W1, hW1⟩ : ∃ z : World, z = (((W0.alloc (.cells #[.slice none 0 0] 22)).alloc (.map #[] 0)).alloc (.cells #[.map (some (w.heap.size + 1 + 1 + 1))] 160)).alloc (.cells #[.func (.func 105) #[] #[.pointer (some ⟨w.heap.size, 0, none⟩), .pointer (some ⟨w.heap.size + 1 + 1, 0, none⟩), .pointer (some ⟨w.heap.size + 1 + 1 + 1 + 1, 0, none⟩), .pointer (some ⟨w.heap.size + 1, 0, none⟩), .pointer (some ⟨w.heap.size + 1 + 1 + 1 + 1 + 1, 0, none⟩)]] 161) := ⟨_, rfl⟩
  have b1 : Below W0.heap.size W0 W1 := by rw [hW1]; exact ((((Below.refl _ _).alloc (Nat.le_refl _) _).alloc (by simp) _).alloc (by simp; omega) _).alloc (by simp; omega) _
  have cF : Cells W1 (w.heap.size + 1 + 1) #[.slice none 0 0] 22 := by rw [hW1]; exact (((Cells.new' _ _ _ _ z0.symm).alloc _).alloc _).alloc _
  have cD : Cells W1 (w.heap.size + 1 + 1 + 1 + 1) #[.map (some (w.heap.size + 1 + 1 + 1))] 160 := by rw [hW1]; exact (Cells.new' _ _ _ _ (by simp; omega)).alloc _
  have cN : Cells W1 (w.heap.size + 1 + 1 + 1 + 1 + 1) #[.func (.func 105) #[] #[.pointer (some ⟨w.heap.size, 0, none⟩), .pointer (some ⟨w.heap.size + 1 + 1, 0, none⟩), .pointer (some ⟨w.heap.size + 1 + 1 + 1 + 1, 0, none⟩), .pointer (some ⟨w.heap.size + 1, 0, none⟩), .pointer (some ⟨w.heap.size + 1 + 1 + 1 + 1 + 1, 0, none⟩)]] 161 := by rw [hW1]; exact Cells.new' _ _ _ _ (by simp; omega)
  have D1 : DeadAt W1 (w.heap.size + 1 + 1 + 1) 0 (fun i f => nextR p l (p.sends.length - i) i f = none) := by
    have h := DeadAt.made (W0.alloc (.cells #[.slice none 0 0] 22)) (fun i f => nextR p l (p.sends.length - i) i f = none)
    rw [show (W0.alloc (.cells #[.slice none 0 0] 22)).heap.size = w.heap.size + 1 + 1 + 1 by simp; omega] at h
    rw [hW1]
    exact h.below (((Below.refl _ _).alloc (Nat.le_refl _) _).alloc (by simp) _)
  have S1 : SAt W0.heap.size W0 w.heap.size (w.heap.size + 1 + 1) (w.heap.size + 1 + 1 + 1 + 1) (w.heap.size + 1) (w.heap.size + 1 + 1 + 1 + 1 + 1) (w.heap.size + 1 + 1 + 1) W1 := by
    refine ⟨b1, ?_, ?_, ⟨.slice none 0 0, ?_⟩, cF.frozen 0⟩
    · have := cD.cell 0; simpa using this
    · have := cN.cell 0; simpa using this
    · have := cF.cell 0; simpa using this
  have n4 := (postErr_ok h0).1
  have hnx := next_any p l a c ar cr Bw al cl w.heap.size (w.heap.size + 1 + 1) (w.heap.size + 1 + 1 + 1 + 1) (w.heap.size + 1) (w.heap.size + 1 + 1 + 1 + 1 + 1) (w.heap.size + 1 + 1 + 1) W0 S0 h0 ll (by omega) (by omega) (by omega)
    p.sends.length 0 0 [] none 0 0 W1 (by omega) (by omega) rfl (IntsAt.nil _ _) (fun _ => ⟨rfl, rfl⟩) (fun off h => by cases h) S1 D1 (by have := costS_le n4; unfold maxLen; omega)
  rw [show ((0 : Nat) : Int) = 0 from rfl, List.length_nil] at hnx
  obtain ⟨o, ho⟩ : ∃ o, searchF p l = o := ⟨_, rfl⟩
  rw [show nextR p l p.sends.length 0 0 = o from ho] at hnx
  rw [ho]
  have kf0 : W1.cell? ⟨w.heap.size + 1 + 1, 0, none⟩ = some (.slice none 0 0) := by have := cF.cell 0; simpa using this
  clear D1 S1 S0 cD cN cF ho
  have kn0 : W1.cell? ⟨w.heap.size + 1 + 1 + 1 + 1 + 1, 0, none⟩ = W1.cell? ⟨w.heap.size + 1 + 1 + 1 + 1 + 1, 0, none⟩ := rfl
  go_enter Try.func80, Try.ntmps80
  cases o with
  | none =>
    go_wp2_with fail
    rw [← hW0, ← hW1]
    clear hW0 hW1
    go_at_call 105
    with_reducible refine hnx.mono ?_
    rintro e w1 ⟨rfl, hk, _⟩
    have kf1 := hk.cell kf0
    have lf := cell_ltK kf1
    have hbk := hk.toBelow (B0 := w.heap.size) (by omega) (by have := b1.size; omega)
    go_wp2
    go_ret2
    exact ⟨rfl, b0.trans ((b1.mono (by omega)).trans hbk)⟩
  | some z =>
    go_wp2_with fail
    rw [← hW0, ← hW1]
    clear hW0 hW1
    go_at_call 105
    with_reducible refine hnx.mono ?_
    rintro e w1 ⟨rfl, hB, _, a5, c5, kf1, hi5⟩
    have lf := cell_ltK kf1
    simp only [List.nil_append] at kf1 hi5
    go_wp2
    go_ret2
    exact ⟨⟨a5, c5, rfl, hi5⟩, b0.trans (hB.mono (by omega))⟩
end Go.Proofs.Ytfclemnkcpadpaa
