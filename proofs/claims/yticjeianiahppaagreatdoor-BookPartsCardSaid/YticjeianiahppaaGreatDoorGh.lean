/- book, laws: what does not change where a part of the state stays (plain) -/
import Derived.Test.YticjeianiahppaaGreatDoorVi
namespace Go.Proofs.YticjeianiahppaaGreatDoor
set_option linter.unusedVariables false
set_option linter.unusedSimpArgs false
set_option linter.unnecessarySimpa false
open Go.RowKit Go.Flow
theorem told_days {l m : List ByteArray} (h0 : faultL l = 0) (h1 : faultL m = 0) (h : SameCodes (afterL l) (afterL m)) : exposedE m = exposedE l ∧ exposedL m = exposedL l := by
  have e : exposedE m = exposedE l := by unfold exposedE; rw [h0, h1, h.days]
  refine ⟨e, ?_⟩
  unfold exposedL
  rw [e, h.days, h.lost]
theorem told_spans {l m : List ByteArray} (h0 : faultL l = 0) (h1 : faultL m = 0) (h : (afterL m).post = (afterL l).post) : copiesE m = copiesE l ∧ spansL m = spansL l ∧ sureL m = sureL l := by
  have e : copiesE m = copiesE l := by unfold copiesE; rw [h0, h1, h]
  refine ⟨e, ?_, ?_⟩
  · unfold spansL; rw [e, h]
  · unfold sureL; rw [e, h]
theorem told_owed {l m : List ByteArray} (h0 : faultL l = 0) (h1 : faultL m = 0) (h : SameAcc (afterL l) (afterL m)) : owedE m = owedE l ∧ owedL m = owedL l := by
  have e : owedE m = owedE l := by unfold owedE; rw [h0, h1, h.ds]
  have a : (afterL m).acc = (afterL l).acc := by unfold BSt.acc; rw [h.rate, h.keeps, h.ds]
  refine ⟨e, ?_⟩
  unfold owedL; rw [e, a]
theorem exposed_len (l : List ByteArray) : (exposedL l).length ≤ 1000 := by
  have F := after_few l
  unfold exposedL
  split
  · unfold Cph.expRes; rw [Cph.upTo_len]; exact Nat.le_trans F.days (by omega)
  · simp
theorem sure_len (l : List ByteArray) : (sureL l).length ≤ 1000 := by
  have F := after_few l
  unfold sureL
  split
  · unfold Cps.sureOut
    split
    · exact Nat.le_trans (Cps.sureF_len _ _) (Nat.le_trans F.sends (by omega))
    · simp
  · simp
theorem spans_len (l : List ByteArray) : (spansL l).length ≤ 1000 := by
  have F := after_few l
  unfold spansL
  split
  · unfold Cps.spansOut
    split
    · rw [Cps.spansF_len]; exact Nat.le_trans F.sends (by omega)
    · simp
  · simp
theorem owed_len (l : List ByteArray) : (owedL l).length ≤ 1000 := by
  unfold owedL
  split
  · unfold Pay.bdOut
    split
    · simp [Pay.bdL, BSt.acc]
    · simp
  · simp
/-- Which of the three questions a line may change the answer of. -/
theorem told_line {l : List ByteArray} {k : Nat} (hk : k < l.length) (h0 : faultL l = 0) :
    ((∀ c n, parseF l[k] = some (c, n) → c.part ≠ .codes) → exposedE (l.take (k + 1)) = exposedE (l.take k) ∧ exposedL (l.take (k + 1)) = exposedL (l.take k)) ∧
    ((∀ c n, parseF l[k] = some (c, n) → c.part ≠ .post) → copiesE (l.take (k + 1)) = copiesE (l.take k) ∧ spansL (l.take (k + 1)) = spansL (l.take k) ∧ sureL (l.take (k + 1)) = sureL (l.take k)) ∧
    ((∀ c n, parseF l[k] = some (c, n) → c.part ≠ .account) → owedE (l.take (k + 1)) = owedE (l.take k) ∧ owedL (l.take (k + 1)) = owedL (l.take k)) := by
  have e : afterL (l.take (k + 1)) = lineS (afterL (l.take k)) l[k] := by rw [List.take_succ_eq_append_getElem hk]; exact playS_snoc _ _ _
  have f0 := fault_take h0 k
  have f1 := fault_take h0 (k + 1)
  refine ⟨fun h => told_days f0 f1 ?_, fun h => told_spans f0 f1 ?_, fun h => told_owed f0 f1 ?_⟩
  · rw [e]; exact part_line _ _ h
  · rw [e]; exact part_line2 _ _ h
  · rw [e]; exact part_line3 _ _ h
end Go.Proofs.YticjeianiahppaaGreatDoor
