/- pay: what the laws on balances call, with what it yields under a name -/
import Derived.Test.YtomjlmhnjgohdaaBs
import Derived.Test.YtomjlmhnjgohdaaIc
import Derived.Test.YtomjlmhnjgohdaaBz
import Derived.Test.YtomjlmhnjgohdaaHa
import Derived.Test.YtomjlmhnjgohdaaHb
namespace Go.Proofs.Ytomjlmhnjgohdaa
set_option linter.unusedVariables false
set_option linter.unusedSimpArgs false
set_option linter.unnecessarySimpa false
open Go.RowKit Go.Flow Go.Shelf

theorem none_nil {w : World} {a : Option Addr} {l : List Int} {c : Nat} (hx : IntsAt w a l) (nx : a = none → c = 0) : a = none → l = [] ∧ c = 0 := fun h => by
  refine ⟨?_, nx h⟩
  rcases Nat.eq_zero_or_pos l.length with h0 | h0
  · exact List.eq_nil_of_length_eq_zero h0
  · obtain ⟨b, off, e, _⟩ := hx 0 h0
    rw [h] at e; cases e
section
variable (a : Option Addr) (l : List Int) (c : Nat) (w : World)
theorem settleBad_eq (E : Int) (HE : Hid (balsErr l = E)) (hne : E ≠ 0) (hx : IntsAt w a l) (hl : l.length ≤ 1000) : Calls Try.prog 31 #[.slice a l.length c] w fun e w' => e = .returned (.tuple #[.slice none 0 0, .int .i64 E]) ∧ Below w.heap.size w w' :=
  Settle_bad a l c w hx hl E HE.out hne
theorem settle_eq (S : List (Int × Int × Int)) (H0 : Hid (balsErr l = 0)) (HS : Hid (settleL l = S)) (hx : IntsAt w a l) (nx : a = none → c = 0) : Calls Try.prog 31 #[.slice a l.length c] w fun e w' => (∃ ao co, e = .returned (.tuple #[.slice ao S.length co, .int .i64 0]) ∧ Recs3At w' ao S) ∧ Below w.heap.size w w' := by
  rw [← HS.out]
  exact Settle_good a l c (none_nil hx nx) w hx H0.out
theorem prove_eq (P : Bool) (ap : Option Addr) (ps : List (Int × Int × Int)) (cp : Nat) (many : Int) (HP : Hid (proveF l ps many = P)) (hx : IntsAt w a l) (nx : a = none → c = 0) (hl : l.length ≤ 1000) (hp : Recs3At w ap ps) (hpl : ps.length ≤ 1000) : Calls Try.prog 32 #[.slice a l.length c, .slice ap ps.length cp, .int .i64 many] w fun e w' => e = .returned (.bool P) ∧ Below w.heap.size w w' := by
  rw [← HP.out]
  exact ProveSettled_any a l c (none_nil hx nx) ap ps cp many w hx hl hp hpl
theorem rBals_eq (E : Int) (HE : Hid (balsErr l = E)) (hx : IntsAt w a l) (hl : l.length ≤ 1000) : Calls Try.prog 34 #[.slice a l.length c] w fun e w' => e = .returned (.int .i64 E) ∧ w = w' := by
  rw [← HE.out]
  exact rBals_any a l c w hx hl
theorem rSettles_eq (Q : Bool) (ap : Option Addr) (ps : List (Int × Int × Int)) (cp : Nat) (H0 : Hid (balsErr l = 0)) (HQ : Hid (settlesF l.length l ps = Q)) (hx : IntsAt w a l) (hp : Recs3At w ap ps) (hpl : ps.length ≤ 1000) : Calls Try.prog 35 #[.slice a l.length c, .slice ap ps.length cp] w fun e w' => e = .returned (.bool Q) ∧ Below w.heap.size w w' := by
  rw [← HQ.out]
  exact rSettles_any ap ps cp w hp hpl a l c hx H0.out
theorem rFewest_eq (n : Nat) (H0 : Hid (balsErr l = 0)) (Hn : Hid ((settleL l).length = n)) (hx : IntsAt w a l) : Calls Try.prog 36 #[.slice a l.length c] w fun e w' => e = .returned (.int .i64 (n : Int)) ∧ Below w.heap.size w w' := by
  rw [← Hn.out]
  exact rFewest_any a l c w hx H0.out
theorem rBest_eq (n : Nat) (H0 : Hid (balsErr l = 0)) (Hn : Hid ((grpL l).length = n)) (hx : IntsAt w a l) : Calls Try.prog 49 #[.slice a l.length c] w fun e w' => e = .returned (.int .i64 (n : Int)) ∧ Below w.heap.size w w' := by
  rw [← Hn.out]
  exact rBest_any a l c w hx H0.out
end
section
variable (a : Option Addr) (l : List Int) (c : Nat) (w : World)
theorem groupsBad_eq (E : Int) (HE : Hid (balsErr l = E)) (hne : E ≠ 0) (hx : IntsAt w a l) (hl : l.length ≤ 1000) : Calls Try.prog 45 #[.slice a l.length c] w fun e w' => e = .returned (.tuple #[.slice none 0 0, .int .i64 E]) ∧ Below w.heap.size w w' :=
  Groups_bad a l c w hx hl E HE.out hne
theorem groups_eq (S : List (List Int)) (H0 : Hid (balsErr l = 0)) (HS : Hid (groupsL l = S)) (hx : IntsAt w a l) : Calls Try.prog 45 #[.slice a l.length c] w fun e w' => (∃ ao co, e = .returned (.tuple #[.slice ao S.length co, .int .i64 0]) ∧ ListsAt w' ao S) ∧ Below w.heap.size w w' := by
  rw [← HS.out]
  exact Groups_good a l c w hx H0.out
theorem proveG_eq (P : Bool) (ag : Option Addr) (gs : List (List Int)) (cg : Nat) (many : Int) (HP : Hid (proveG l gs many = P)) (hx : IntsAt w a l) (hl : l.length ≤ 1000) (hg : ListsAt w ag gs) (hgl : gs.length ≤ 1000) (HG : Hid (∀ g ∈ gs, g.length ≤ 1000)) : Calls Try.prog 46 #[.slice a l.length c, .slice ag gs.length cg, .int .i64 many] w fun e w' => e = .returned (.bool P) ∧ Below w.heap.size w w' := by
  rw [← HP.out]
  exact ProveGroups_any a l c ag gs cg many w hx hl hg hgl HG.out
theorem rAre_eq (Q : Bool) (ag : Option Addr) (gs : List (List Int)) (cg : Nat) (H0 : Hid (balsErr l = 0)) (HQ : Hid (areG l gs 0 = Q)) (hx : IntsAt w a l) (hg : ListsAt w ag gs) (hgl : gs.length ≤ 1000) (HG : Hid (∀ g ∈ gs, g.length ≤ 1000)) : Calls Try.prog 48 #[.slice a l.length c, .slice ag gs.length cg] w fun e w' => e = .returned (.bool Q) ∧ Below w.heap.size w w' := by
  rw [← HQ.out]
  exact rAreGroups_any a l c ag gs cg w hx H0.out hg hgl HG.out
theorem lists_eq (ag : Option Addr) (gs : List (List Int)) (cg : Nat) (hg : ListsN w ag gs) (hgl : gs.length ≤ 1000) (HG : Hid (∀ g ∈ gs, g.length ≤ 1000)) : Calls Try.prog 47 #[.slice ag gs.length cg] w fun e w' => (∃ a c, e = .returned (.slice a gs.length c) ∧ ListsAt w' a gs) ∧ Below w.heap.size w w' := lists_any ag gs cg w hg hgl HG.out
end
theorem owed_eq (aw : Option Addr) (ws : List Int) (cw : Nat) (many : Nat) (L : List Int) (HL : Hid (owedL ws many = L)) (w : World) (hw : U16At w aw ws) (HU : Hid (U16s ws)) (hwl : ws.length ≤ 9223372036854775807) (hm : many ≤ 255) :
    Calls Try.prog 41 #[.slice aw ws.length cw, .int .u8 (many : Int)] w fun e w' => (∃ a c, e = .returned (.slice a L.length c) ∧ IntsAt w' a L ∧ (a = none → c = 0)) ∧ Below w.heap.size w w' := by
  rw [← HL.out, owedL_len]
  exact (Owed_any aw ws cw many w hw HU.out hwl hm).mono fun e w1 ⟨⟨a, c, h1, h2, h3, _⟩, h5⟩ => ⟨⟨a, c, h1, h2, h3⟩, h5⟩
theorem owed_eq2 (aw : Option Addr) (ws : List Int) (cw : Nat) (many : Nat) (L : List Int) (HL : Hid (owedL ws many = L)) (w : World) (hw : U16At w aw ws) (HU : Hid (U16s ws)) (hwl : ws.length ≤ 9223372036854775807) (hm : many ≤ 255) :
    Calls Try.prog 41 #[.slice aw ws.length cw, .int .u8 (many : Int)] w fun e w' => (∃ a c, e = .returned (.slice a L.length c) ∧ IntsAt w' a L ∧ (a = none → c = 0) ∧ L.length ≤ c) ∧ Below w.heap.size w w' := by
  rw [← HL.out, owedL_len]
  exact Owed_any aw ws cw many w hw HU.out hwl hm
theorem list_own_n (a : Option Addr) (l : List Int) (n c : Nat) (hn : l.length = n) (w : World) (hx : IntsAt w a l) (hl : n ≤ 1000) (nx : a = none → c = 0) :
    Calls Try.prog 22 #[.slice a n c] w fun e w' => (∃ a c, e = .returned (.slice a n c) ∧ OwnL 3 1 w.heap.size w' a c n (l.map (Value.int .i64))) ∧ Below w.heap.size w w' := by
  subst hn
  exact list_own a l c w hx hl nx
theorem owed_len (ws : List Int) (many : Nat) : 1 ≤ (owedL ws many).length ∧ (owedL ws many).length ≤ 7 := by
  have := Nat.mod_lt many (show 0 < 7 by omega)
  rw [owedL_len]; omega
theorem owed_err (ws : List Int) (many : Nat) : balsErr (owedL ws many) = 0 := by
  have h := owed_len ws many
  exact balsErr_of h.2 (fun e => by rw [e] at h; simp at h) (owed_bd ws many) (owed_sum ws many)
theorem groupsL_length (l : List Int) : (groupsL l).length = (grpL l).length := by simp [groupsL]
end Go.Proofs.Ytomjlmhnjgohdaa
