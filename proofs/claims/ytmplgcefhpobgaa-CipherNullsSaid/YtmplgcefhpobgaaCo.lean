/- cipher: the memo's world laws -/
import Derived.Test.YtmplgcefhpobgaaCn
namespace Go.Proofs.Ytmplgcefhpobgaa
set_option linter.unusedVariables false
set_option linter.unusedSimpArgs false
set_option linter.unnecessarySimpa false
open Go.RowKit Go.Flow
open Go.Maps (Keyed)

def IsMapAt (w : World) (b : Nat) : Prop := ∃ es c, w.heap[b]? = some (.map es c)

/-- w' is w but for new memory and for the map in block bm. -/
structure Keep (bm : Nat) (w w' : World) : Prop where
  grown : w.grownBy w' (some bm)
  old : IsMapAt w bm
  new : IsMapAt w' bm

theorem grown_of_below {w w' : World} (hb : Below w.heap.size w w') (row : Option Nat) : w.grownBy w' row := ⟨hb.os, hb.tape, hb.output, hb.size, fun k hk _ => hb.block k hk⟩
theorem IsMapAt.below {w w' : World} {b : Nat} (h : IsMapAt w b) (hb : Below w.heap.size w w') : IsMapAt w' b := by
  obtain ⟨es, c, hm⟩ := h
  exact ⟨es, c, (hb.block b (Array.getElem?_eq_some_iff.1 hm).1).trans hm⟩
theorem Keep.refl {bm : Nat} {w : World} (h : IsMapAt w bm) : Keep bm w w := ⟨World.grownBy.refl _ _, h, h⟩
theorem Keep.of_below {bm : Nat} {w w' : World} (h : IsMapAt w bm) (hb : Below w.heap.size w w') : Keep bm w w' := ⟨grown_of_below hb _, h, h.below hb⟩
theorem Keep.trans {bm : Nat} {a b c : World} (h : Keep bm a b) (k : Keep bm b c) : Keep bm a c := ⟨h.grown.trans k.grown, h.old, k.new⟩
theorem Keep.size {bm : Nat} {w w' : World} (h : Keep bm w w') : w.heap.size ≤ w'.heap.size := h.grown.size
theorem Keep.below {bm : Nat} {a b c : World} (h : Keep bm a b) (hb : Below b.heap.size b c) : Keep bm a c := h.trans (.of_below h.new hb)

theorem cell_lt {w : World} {a : Addr} {v : Value} (h : w.cell? a = some v) : a.block < w.heap.size := by
  by_cases e : a.block < w.heap.size
  · exact e
  · have : w.heap[a.block]? = none := Array.getElem?_eq_none (by omega)
    simp [World.cell?, this] at h
theorem IsMapAt.ne {w : World} {b : Nat} (h : IsMapAt w b) {a : Addr} {v : Value} (hc : w.cell? a = some v) : a.block ≠ b := by
  intro e
  obtain ⟨es, c, hm⟩ := h
  rw [← e] at hm
  simp [World.cell?, hm] at hc
theorem Keep.cell {bm : Nat} {w w' : World} (h : Keep bm w w') {a : Addr} {v : Value} (hc : w.cell? a = some v) : w'.cell? a = some v :=
  h.grown.cell hc (fun e => h.old.ne hc (Option.some.inj e))
theorem below_cell {w w' : World} (hb : Below w.heap.size w w') {a : Addr} {v : Value} (hc : w.cell? a = some v) : w'.cell? a = some v := (hb.cell (cell_lt hc)).trans hc
theorem IntsAt.keep {bm : Nat} {w w' : World} {a : Option Addr} {xs : List Int} (h : IntsAt w a xs) (k : Keep bm w w') : IntsAt w' a xs := fun i hi =>
  let ⟨b, off, ha, hlt, hc⟩ := h i hi
  ⟨b, off, ha, Nat.lt_of_lt_of_le hlt k.size, k.cell hc⟩
theorem Recs2At.keep {bm : Nat} {w w' : World} {a : Option Addr} {xs : List (Int × Int)} (h : Recs2At w a xs) (k : Keep bm w w') : Recs2At w' a xs := fun i hi =>
  let ⟨b, off, ha, hlt, h0, h1⟩ := h i hi
  ⟨b, off, ha, Nat.lt_of_lt_of_le hlt k.size, k.cell h0, k.cell h1⟩

/-- Every entry of the map is what G says. -/
def MemoAt (w : World) (bm n : Nat) (G : Spot → Int) : Prop :=
  ∃ D : DataW Unit, w.ownsMap Try.prog 121 (plainElem Try.prog 3) bm n D ∧
    ∀ s kl, keyOf Try.prog 121 s.val = some kl → Go.Maps.has D kl = true → D.atKey kl (.lit (.int .i64 0)) = .lit (.int .i64 (G s))

theorem MemoAt.isMap {w : World} {bm n : Nat} {G : Spot → Int} (h : MemoAt w bm n G) : IsMapAt w bm := by
  obtain ⟨D, ⟨es, c, hm, _⟩, _⟩ := h
  exact ⟨es, c, hm⟩
theorem MemoAt.lt {w : World} {bm n : Nat} {G : Spot → Int} (h : MemoAt w bm n G) : bm < w.heap.size := by
  obtain ⟨D, ho, _⟩ := h
  exact ho.lt
theorem MemoAt.mono {w : World} {bm n n' : Nat} {G : Spot → Int} (h : MemoAt w bm n G) (hn : n ≤ n') : MemoAt w bm n' G := by
  obtain ⟨D, ho, hG⟩ := h
  exact ⟨D, ho.mono hn, hG⟩
theorem MemoAt.below {w w' : World} {bm n : Nat} {G : Spot → Int} (h : MemoAt w bm n G) (hb : Below w.heap.size w w') : MemoAt w' bm n G := by
  obtain ⟨D, ho, hG⟩ := h
  exact ⟨D, ho.kept (grown_of_below hb none) (by simp), hG⟩
theorem MemoAt.made (w : World) (G : Spot → Int) : MemoAt (w.alloc (.map #[] 0)) w.heap.size 0 G :=
  ⟨.map [], World.ownsMap_made w _ _ _, fun s kl _ h => by simp [Go.Maps.has] at h⟩

theorem zeroInt (w : World) : (zeroValue 3).run Try.prog w = .ok (.int .i64 0) w := by kernel_rfl

theorem MemoAt.look {w : World} {bm n : Nat} {G : Spot → Int} (h : MemoAt w bm n G) (s : Spot) (hs : s.Fine) :
    ∃ (c : Int) (b : Bool), (∀ e : Ext w, (Instr.lookup 114 (.map (some bm)) s.val true).run Try.prog e.to = .ok (.tuple #[.int .i64 c, .bool b]) e.to) ∧ (b = true → c = G s) := by
  obtain ⟨D, ho, hG⟩ := h
  obtain ⟨kl, hkl⟩ := spot_key s hs
  have key : ∀ e : Ext w, ∃ c : Int, (Instr.lookup 114 (.map (some bm)) s.val true).run Try.prog e.to = .ok (.tuple #[.int .i64 c, .bool (Go.Maps.has D kl)]) e.to ∧ D.atKey kl (.lit (.int .i64 0)) = .lit (.int .i64 c) := by
    intro e
    obtain ⟨v, ps, hrun, hv⟩ := World.ownsMap.look_ok (ho.kept (grown_of_below e.below none) (by simp)) spotKeyed Try.underlying114 (zeroInt e.to) (plainElem_int Try.underlying3 (by decide)) hkl
    obtain ⟨c, rfl, hc, _⟩ := plainElem_int_inv Try.underlying3 hv
    exact ⟨c, hrun, congrArg Prod.fst hc⟩
  obtain ⟨c, _, h2⟩ := key ⟨w, Below.refl _ _⟩
  refine ⟨c, Go.Maps.has D kl, fun e => ?_, fun hb => ?_⟩
  · obtain ⟨c', h1', h2'⟩ := key e
    rw [h2] at h2'
    have e2 : c = c' := by simpa using h2'
    subst e2
    exact h1'
  · have := hG s kl hkl hb
    rw [h2] at this
    simpa using this

theorem wpList_memo_put {w : World} {ops : Array Oper} {rest : List Oper} {o : Oper} {a : Act} {Q : Exit → Act → World → Prop} {bm n : Nat} {G : Spot → Int} (s : Spot) (hs : s.Fine)
    (hg : o.guard = none) (m x v : Operand) (hop : o.op = Op.mapUpdate 114 m x v) (hm : a.eval m = .map (some bm)) (hx : a.eval x = s.val) (c : Int) (hv : a.eval v = .int .i64 c)
    (hc : c = G s) (hwf : (Lit.int .i64 c).wf = true) (h : MemoAt w bm n G) (hn : n < maxLen) (hK : ∀ w', MemoAt w' bm (n + 1) G → Keep bm w w' → wpList Try.prog ops Q rest (a.put o.dst undef) w') :
    wpList Try.prog ops Q (o :: rest) a w := by
  have hmap := h.isMap
  obtain ⟨D, ho, hG⟩ := h
  obtain ⟨kl, hkl⟩ := spot_key s hs
  refine wpList_mapUpdate_own w hg m x v 114 hop 121 3 spotKeyed Try.underlying114 (plainElem Try.prog 3) bm n D hm ho hn s.val (.int .i64 c) kl hx hv hkl
    (.lit (.int .i64 c)) [] (plainElem_int Try.underlying3 hwf) fun w' ho' hgr => ?_
  have hM : MemoAt w' bm (n + 1) G := by
    refine ⟨_, ho', fun s' kl' hkl' hh => ?_⟩
    by_cases e : kl' = kl
    · subst e
      have es := spotKeyed.inj hkl hkl'
      have es2 : s = s' := by
        obtain ⟨a0, a1, a2, a3, a4, a5, a6⟩ := s
        obtain ⟨b0, b1, b2, b3, b4, b5, b6⟩ := s'
        simp [Spot.val] at es
        simp [es]
      subst es2
      rw [Go.Maps.atKey_put_same ho.isMap (spotKeyed.key hkl), hc]
    · rw [Go.Maps.has_put_other e] at hh
      rw [Go.Maps.atKey_put_other e]
      exact hG s' kl' hkl' hh
  exact hK w' hM ⟨hgr, hmap, hM.isMap⟩

end Go.Proofs.Ytmplgcefhpobgaa
