/- cipher: the memo of Plan -/
import Derived.Test.YtmplgcefhpobgaaCm
import Derived.DeepKeys4
import Derived.Maps.OwnSet
namespace Go.Proofs.Ytmplgcefhpobgaa
set_option linter.unusedVariables false
set_option linter.unusedSimpArgs false
set_option linter.unnecessarySimpa false
open Go.RowKit Go.Flow
open Go.Maps (Keyed)

theorem laidOut' : laidOutB Try.prog = true := by kernel_rfl
theorem spotRow : (121 : TypeId) < Try.prog.types.size := of_decide_eq_true (by kernel_rfl)
theorem spotWide : (match Try.prog.underlying 121 with | some (.array _ _) | some (.struct _) => true | _ => false) = true := by kernel_rfl
set_option maxRecDepth 100000 in
theorem spotKeyed : Keyed Try.prog 121 := Keyed.of_law (deep_law_laid laidOut' (m := 4) (by omega) spotRow (by kernel_rfl) spotWide)
theorem spotCells : Try.prog.cellsOf 121 = 7 := by kernel_rfl
theorem usesCells : Try.prog.cellsOf 119 = 5 := by kernel_rfl
theorem intCells : Try.prog.cellsOf 3 = 1 := by kernel_rfl
theorem spotKeyType : Try.prog.keyType 121 = true := by kernel_rfl
theorem manyTypes : 2 ≤ Try.prog.types.size := of_decide_eq_true (by kernel_rfl)

theorem i64_wf (x : Int) (h0 : 0 ≤ x) (h1 : x ≤ 1000000) : (Lit.int .i64 x).wf = true := by
  simp [Lit.wf, IntKind.min, IntKind.max, IntKind.bits, IntKind.signed]
  omega

theorem lits_int (n : Nat) (x : Int) (h : (Lit.int .i64 x).wf = true) : Try.prog.keyLits (n + 1) 3 [.int .i64 x] = some [.int .i64 x] := by
  simp only [Program.keyLits, Try.underlying3]
  simp [h]

theorem lits_uses (n : Nat) (a b c d e : Int) (ha : (Lit.int .i64 a).wf = true) (hb : (Lit.int .i64 b).wf = true) (hc : (Lit.int .i64 c).wf = true) (hd : (Lit.int .i64 d).wf = true) (he : (Lit.int .i64 e).wf = true) :
    ∃ l, Try.prog.keyLits (n + 2) 119 [.int .i64 a, .int .i64 b, .int .i64 c, .int .i64 d, .int .i64 e] = some l := by
  rw [show n + 2 = (n + 1) + 1 from rfl]
  have e0 := lits_int n a ha
  have e1 := lits_int n b hb
  have e2 := lits_int n c hc
  have e3 := lits_int n d hd
  have e4 := lits_int n e he
  refine ⟨[.int .i64 a, .int .i64 b, .int .i64 c, .int .i64 d, .int .i64 e], ?_⟩
  unfold Program.keyLits
  rw [Try.underlying119]
  dsimp only
  rw [usesCells, intCells]
  simp only [List.range, List.range.loop, List.mapM_cons, List.mapM_nil]
  simp [e0, e1, e2, e3, e4]

theorem lits_spot (n : Nat) (s : Spot) (h : s.Fine) : ∃ l, Try.prog.keyLits (n + 3) 121 s.val.cells.toList = some l := by
  obtain ⟨d, la, u0, u1, u2, u3, u4⟩ := s
  obtain ⟨d0, d1, l0, l1, n0, n1, n2, n3, n4⟩ := h
  have e0 := lits_int (n + 1) d (i64_wf d d0 d1)
  have e1 := lits_int (n + 1) la (i64_wf la l0 l1)
  obtain ⟨l, e2⟩ := lits_uses n u0 u1 u2 u3 u4 (i64_wf u0 n0.1 n0.2) (i64_wf u1 n1.1 n1.2) (i64_wf u2 n2.1 n2.2) (i64_wf u3 n3.1 n3.2) (i64_wf u4 n4.1 n4.2)
  refine ⟨[.int .i64 d, .int .i64 la] ++ l, ?_⟩
  unfold Program.keyLits
  rw [Try.underlying121]
  dsimp only
  rw [spotCells]
  simp only [Spot.val, Value.cells]
  simp [usesCells, intCells, e0, e1, e2]

theorem spot_key (s : Spot) (h : s.Fine) : ∃ kl, keyOf Try.prog 121 s.val = some kl := by
  have hn : Try.prog.types.size + 1 = (Try.prog.types.size - 2) + 3 := by have := manyTypes; omega
  obtain ⟨l, hl⟩ := lits_spot (Try.prog.types.size - 2) s h
  have hf : Value.formed Try.prog 121 s.val = true := by
    obtain ⟨d, la, u0, u1, u2, u3, u4⟩ := s
    simp [Value.formed, Try.underlying121, Spot.val, spotCells]
  unfold keyOf
  rw [hn, spotKeyType, hf, Try.underlying121]
  dsimp only
  rw [hl]
  exact ⟨_, rfl⟩

end Go.Proofs.Ytmplgcefhpobgaa
