/- flash: the texts that can have been sent, plainly; what the closure keeps; append onto a text -/
import Derived.Test.YtnofcpihkglmmaaFi
import Derived.Deep.RegionLawGrows
import Derived.Deep.RegionHeld3
import Derived.Lib.SliceRun
import Derived.Test.YtnofcpihkglmmaaOwn
namespace Go.Proofs.Ytnofcpihkglmmaa
set_option linter.unusedVariables false
set_option linter.unusedSimpArgs false
set_option linter.unnecessarySimpa false
open Go.RowKit Go.Flow
/-- The signs of one more letter: a blank is ahead of all but the first. -/
def sgsOf (text : List Int) (s : List UInt8) : List UInt8 := if text = [] then s else 32 :: s
/-- All texts that begin with one, with so many letters more. -/
def addF (L : List UInt8) (errs : Int) (ss : List (List UInt8)) : Nat → List Int → (Nat → Int) → List (List Int)
  | 0, text, r => if hopeF L errs r = true then [] else if r L.length ≤ errs then [text] else []
  | m + 1, text, r => if hopeF L errs r = true then [] else (List.range ss.length).flatMap fun (i : Nat) => addF L errs ss m (text ++ [(i : Int)]) (aftF L (sgsOf text (ss.getD i [])) r (fun _ => 0) 32)
/-- What a call of the closure leaves as it was: all but the cell of the results, the row of the results, the text's own row. -/
structure KeepT (base Bo : Nat) (tb : Option Nat) (w w' : World) : Prop where
  size : w.heap.size ≤ w'.heap.size
  block : ∀ b, b < w.heap.size → b ≠ Bo → some b ≠ tb → (b < base ∨ ∀ cs fr, w.heap[b]? ≠ some (.cells cs 26 fr)) → w'.heap[b]? = w.heap[b]?
theorem KeepT.of_below {base Bo : Nat} {tb : Option Nat} {w w' : World} (h : Below w.heap.size w w') : KeepT base Bo tb w w' := ⟨h.size, fun b hb _ _ _ => h.block b hb⟩
theorem KeepT.of_grown {base Bo : Nat} {tb : Option Nat} {w w' : World} (h : w.grownBy w' tb) : KeepT base Bo tb w w' := ⟨h.size, fun b hb _ ht _ => h.block b hb ht⟩
theorem KeepT.trans {base Bo : Nat} {tb tb1 : Option Nat} {w w1 w2 : World} (h : KeepT base Bo tb w w1) (k : KeepT base Bo tb1 w1 w2) (ht : tb1 = tb ∨ ∀ g, tb1 = some g → w.heap.size ≤ g) : KeepT base Bo tb w w2 :=
  ⟨Nat.le_trans h.size k.size, fun b hb h1 h2 h3 => by
    have e1 := h.block b hb h1 h2 h3
    refine (k.block b (Nat.lt_of_lt_of_le hb h.size) h1 ?_ ?_).trans e1
    · rcases ht with rfl | ht
      · exact h2
      · intro e
        have := ht b e.symm
        omega
    · rcases h3 with h3 | h3
      · exact .inl h3
      · exact .inr fun cs fr => by rw [e1]; exact h3 cs fr⟩
theorem KeepT.cells {base Bo : Nat} {tb : Option Nat} {w w' : World} (h : KeepT base Bo tb w w') {g : Nat} {cs : Array Value} {T : TypeId} (hc : Cells w g cs T) (hT : T ≠ 26) (h1 : g ≠ Bo) (h2 : some g ≠ tb) : Cells w' g cs T := by
  refine (h.block g hc.lt h1 h2 (.inr fun cs' fr e => ?_)).trans hc
  rw [show w.heap[g]? = _ from hc] at e
  injection e with e
  injection e with _ e _
  exact hT e
theorem KeepT.own {base Bo : Nat} {tb : Option Nat} {w w' : World} (h : KeepT base Bo tb w w') {E : TypeId} {size bs : Nat} {a : Option Addr} {c n : Nat} {xs : List Value} (ho : OwnL E size bs w a c n xs) (hE : E ≠ 26) (h1 : Bo < bs) (h2 : ∀ g, (Value.slice a n c).ownBlock = some g → some g ≠ tb) : OwnL E size bs w' a c n xs := by
  refine ⟨ho.1, ?_⟩
  rcases ho.2 with hn | ⟨g, cap, cur, hv, hbg, hg, rest⟩
  · exact .inl hn
  · refine .inr ⟨g, cap, cur, hv, hbg, ?_, rest⟩
    have hc : Cells w g cur E := hg
    exact h.cells hc hE (by omega) (h2 g (by rw [hv]; rfl))
theorem OwnL.block_ge {E : TypeId} {size base : Nat} {w : World} {a : Option Addr} {c n : Nat} {xs : List Value} (h : OwnL E size base w a c n xs) {g : Nat} (hg : (Value.slice a n c).ownBlock = some g) : base ≤ g ∧ g < w.heap.size := World.ownsRow.lt h g hg
/-- One list of the results. -/
def RowV (base : Nat) (w : World) (v : Value) (row : List Int) : Prop := ∃ a c, v = .slice a row.length c ∧ OwnL 3 1 base w a c row.length (row.map (Value.int .i64))
def RowsV (base : Nat) (w : World) (vs : List Value) (rows : List (List Int)) : Prop := vs.length = rows.length ∧ ∀ k (h : k < rows.length) v, vs[k]? = some v → RowV base w v rows[k]
def ApartV (tb : Option Nat) (vs : List Value) : Prop := ∀ v ∈ vs, ∀ g, v.ownBlock = some g → some g ≠ tb
theorem RowsV.mono {base : Nat} {w w' : World} {vs : List Value} {rows : List (List Int)} (h : RowsV base w vs rows) (hk : ∀ v ∈ vs, ∀ row, RowV base w v row → RowV base w' v row) : RowsV base w' vs rows :=
  ⟨h.1, fun k hlt v hv => hk v (List.mem_of_getElem? hv) _ (h.2 k hlt v hv)⟩
theorem RowsV.mono' {base base' : Nat} {w w' : World} {vs : List Value} {rows : List (List Int)} (h : RowsV base w vs rows) (hk : ∀ v row, RowV base w v row → RowV base' w' v row) : RowsV base' w' vs rows :=
  ⟨h.1, fun k hlt v hv => hk v _ (h.2 k hlt v hv)⟩
theorem RowV.kept {base : Nat} {w w' : World} {v : Value} {row : List Int} (h : RowV base w v row) (hb : Below w.heap.size w w') : RowV base w' v row := let ⟨a, c, h1, h2⟩ := h; ⟨a, c, h1, h2.kept hb⟩
theorem RowsV.kept {base : Nat} {w w' : World} {vs : List Value} {rows : List (List Int)} (h : RowsV base w vs rows) (hb : Below w.heap.size w w') : RowsV base w' vs rows := h.mono fun _ _ _ hr => hr.kept hb
theorem RowV.keep {base Bo : Nat} {tb : Option Nat} {w w' : World} (h : KeepT base Bo tb w w') (hB : Bo < base) {v : Value} {row : List Int} (hr : RowV base w v row) (ht : ∀ g, v.ownBlock = some g → some g ≠ tb) : RowV base w' v row :=
  let ⟨a, c, h1, h2⟩ := hr
  ⟨a, c, h1, h.own h2 (by decide) hB (by subst h1; exact ht)⟩
theorem RowsV.keep {base Bo : Nat} {tb : Option Nat} {w w' : World} (h : KeepT base Bo tb w w') (hB : Bo < base) {vs : List Value} {rows : List (List Int)} (hr : RowsV base w vs rows) (ht : ApartV tb vs) : RowsV base w' vs rows :=
  hr.mono fun v hv _ h2 => RowV.keep h hB h2 (ht v hv)
theorem RowsV.append {base : Nat} {w : World} {vs us : List Value} {rows ros : List (List Int)} (h : RowsV base w vs rows) (k : RowsV base w us ros) : RowsV base w (vs ++ us) (rows ++ ros) := by
  refine ⟨by rw [List.length_append, List.length_append, h.1, k.1], fun i hi v hv => ?_⟩
  by_cases hlt : i < rows.length
  · rw [List.getElem?_append_left (by rw [h.1]; exact hlt)] at hv
    rw [List.getElem_append_left hlt]
    exact h.2 i hlt v hv
  · rw [List.getElem?_append_right (by rw [h.1]; omega), h.1] at hv
    rw [List.getElem_append_right (by omega)]
    exact k.2 (i - rows.length) (by rw [List.length_append] at hi; omega) v hv
/-- The results so far: the cell, their row, the lists. -/
structure OutAt (base Bo : Nat) (w : World) (vs : List Value) (rows : List (List Int)) : Prop where
  cell : ∃ ao co, Cells w Bo #[.slice ao vs.length co] 61 ∧ OwnL 26 1 base w ao co vs.length vs
  rows : RowsV base w vs rows
theorem OutAt.kept {base Bo : Nat} {w w' : World} {vs : List Value} {rows : List (List Int)} (h : OutAt base Bo w vs rows) (hb : Below w.heap.size w w') : OutAt base Bo w' vs rows :=
  ⟨let ⟨ao, co, h1, h2⟩ := h.cell; ⟨ao, co, h1.below hb, h2.kept hb⟩, h.rows.kept hb⟩
/-- Behind an append onto the text. -/
theorem OutAt.grown {base Bo : Nat} {w w' : World} {tb : Option Nat} {vs : List Value} {rows : List (List Int)} (h : OutAt base Bo w vs rows) (hg : w.grownBy w' tb) (hB : Bo < base) (ht : ApartV tb vs) (h1 : some Bo ≠ tb) (h2 : ∀ g, tb = some g → ∃ cs, Cells w g cs 3) : OutAt base Bo w' vs rows := by
  obtain ⟨ao, co, c1, c2⟩ := h.cell
  refine ⟨⟨ao, co, c1.grown hg h1, c2.grown hg fun g e1 e2 => ?_⟩, RowsV.keep (KeepT.of_grown (base := base) (Bo := Bo) hg) hB h.rows ht⟩
  obtain ⟨cs, hc⟩ := h2 g e1
  exact (Cells.not_row hc (by decide) c2) e2.symm
theorem OwnL.cellsAt {E : TypeId} {base : Nat} {w : World} {a : Option Addr} {c n : Nat} {xs : List Value} (h : OwnL E 1 base w a c n xs) : ∀ g, (Value.slice a n c).ownBlock = some g → ∃ cs, Cells w g cs E := by
  intro g hg
  rcases h.2 with ⟨h1, _⟩ | ⟨g', cap, cur, hv, _, hb, _⟩
  · rw [h1] at hg; cases hg
  · rw [hv] at hg
    have : g' = g := by simpa [Value.ownBlock] using hg
    subst this
    exact ⟨cur, hb⟩
theorem info_intF : (Try.prog.info? 3).map (fun i => (i.zero, i.size, i.bytes)) = some (some (.int .i64 0), 1, 8) := by kernel_rfl
theorem elIntF : Elem Try.prog 26 3 (.int .i64 0) 1 8 := ⟨Try.underlying26, info_parts info_intF, rfl, by decide⟩
theorem info_intsF : (Try.prog.info? 26).map (fun i => (i.zero, i.size, i.bytes)) = some (some (.slice none 0 0), 1, 24) := by kernel_rfl
theorem elIntsF : Elem Try.prog 61 26 (.slice none 0 0) 1 24 := ⟨Try.underlying61, info_parts info_intsF, rfl, by decide⟩
/-- 'append' onto a text, at a step of a drawn region: in place, or into a new row; the text itself stays. -/
theorem step_text {ops : Array Oper} {o : Oper} {a : Act} {w : World} {K : Act → World → Prop} {Q : Exit → Act → World → Prop} {F : Prop} (hgd : o.guard = none) (s x : Operand) (ho : o.op = .call { callee := .builtin .append, args := #[s, x], argTypes := #[26, 26] })
    (base : Nat) (a0 : Option Addr) (n c0 : Nat) (xs : List Value) (hs : a.eval s = .slice a0 n c0) (hown : OwnL 3 1 base w a0 c0 n xs) (hn : n ≤ 1000)
    (ad : Addr) (u : Value) (hx : a.eval x = .slice (some ad) 1 1) (hnews : w.cell? ad = some u) (h1 : u.oneCell' = true) (hbase : base ≤ w.heap.size) (H : Nat) (hH : w.heap.size = H)
    (h : ∀ a' c' w', OwnL 3 1 base w' a' c' (n + 1) (xs ++ [u]) → OwnL 3 1 base w' a0 c0 n xs → w.grownBy w' (Value.slice a0 n c0).ownBlock → ((a' = a0 ∧ c' = c0) ∨ ∀ g, (Value.slice a' (n + 1) c').ownBlock = some g → H ≤ g) → K (a.put o.dst (.slice a' (n + 1) c')) w') :
    if Region.wanted o (yielded ops a.tmps) = true then Oper.wp Try.prog o a w K Q else F := by
  subst hH
  obtain ⟨i, hi, hz, hsz, hby⟩ := elIntF.info
  have hadd : ad.add 0 = ad := by unfold Addr.add; split <;> simp_all
  have hn1 : ∀ j v, ([u] : List Value)[j]? = some v → w.cell? (ad.add j) = some v := fun j v hv => by
    cases j with
    | zero => simp at hv; subst hv; rw [hadd]; exact hnews
    | succ j => simp at hv
  have grow : c0 < n + 1 → (∀ b, a0 = some b → ∀ j v, xs[j]? = some v → w.cell? (b.add j) = some v) → (a0 = none → n = 0 ∧ c0 = 0) → if Region.wanted o (yielded ops a.tmps) = true then Oper.wp Try.prog o a w K Q else F := fun hf hol hno =>
    step_append_grows hgd s x 26 ho 3 i (.int .i64 0) 1 8 elIntF.slice hi hz hsz hby rfl (by decide) a0 n c0 xs hs hno (by have := hown.1; simpa using this) hol ad 1 1 [u] hx rfl hn1 (fun v hv => by simp at hv; subst hv; exact h1) hf (by unfold maxLen; omega) (by omega) (fun v' w' hr hg => by
      rcases hr.2 with ⟨_, h0⟩ | ⟨g, cap, cur, rfl, hbg, _⟩
      · omega
      · refine h _ _ w' (OwnL.base_le (base := w.heap.size) hr hbase) (OwnL.grown hown hg (fun g e => by cases e)) ⟨hg.os, hg.tape, hg.output, hg.size, fun k hk _ => hg.block k hk (by simp)⟩ (.inr fun g' e => ?_)
        have : g = g' := by simpa [Value.ownBlock] using e
        omega)
  rcases hown.2 with ⟨hv, h0⟩ | ⟨g, cap, cur, hv, hbg, hg, hnc, hcm, hcs, htake⟩
  · simp at hv
    obtain ⟨rfl, rfl, rfl⟩ := hv
    exact grow (by omega) (fun b e => by cases e) (fun _ => ⟨rfl, rfl⟩)
  · simp only [Value.slice.injEq, true_and] at hv
    obtain ⟨rfl, rfl⟩ := hv
    have hcl : ∀ j v, xs[j]? = some v → w.cell? ((⟨g, 0, none⟩ : Addr).add j) = some v := fun j v hv => World.ownsRow.cells hown (g := g) rfl j v hv
    by_cases hroom : n + 1 ≤ c0
    · have hC : Cells w g cur 3 := hg
      refine step_append_room hgd s x 26 ho 3 i 1 elIntF.slice hi hsz g 0 n c0 hs ad 1 1 [u] hx rfl hn1 (fun v hv => by simp at hv; subst hv; exact h1) hroom (fun j hj => ?_) ?_
      · obtain rfl : j = 0 := by simpa using hj
        exact ⟨by rw [hC.cell]; simp; omega, hC.frozen _⟩
      · have e : w.setCells g (0 + n * 1) [u] = w.setCell ⟨g, n, none⟩ u := by
          show w.setCell ⟨g, 0 + n * 1, none⟩ u = _
          rw [Nat.zero_add, Nat.mul_one]
        rw [e]
        have hS := hC.set n u
        have hxl : xs.length = n := by have := hown.1; omega
        have ht1 : (cur.setIfInBounds n u).toList.take n = xs := by
          rw [← htake, Array.toList_setIfInBounds, Nat.mul_one, List.take_set_of_le (Nat.le_refl _)]
        have ht2 : (cur.setIfInBounds n u).toList.take (n + 1) = xs ++ [u] := by
          rw [List.take_add_one, ht1, Array.toList_setIfInBounds, List.getElem?_set_self (by simp; omega)]
          rfl
        refine h (some ⟨g, 0, none⟩) c0 _ ⟨by simp [hxl], .inr ⟨g, c0, _, rfl, hbg, hS, hroom, hcm, by simp; omega, by rw [Nat.mul_one]; exact ht2⟩⟩ ⟨hown.1, .inr ⟨g, c0, _, rfl, hbg, hS, hnc, hcm, by simp; omega, by rw [Nat.mul_one]; exact ht1⟩⟩ ⟨rfl, rfl, rfl, by simp [World.setCell], fun k hk hne => ?_⟩ (.inl ⟨rfl, rfl⟩)
        refine Below.heap_setCell _ _ _ _ fun e => ?_
        apply hne
        rw [e]
        rfl
    · exact grow (by omega) (fun b e => by cases e; exact hcl) (fun e => by cases e)
theorem OwnL.prefix1 {E : TypeId} {base : Nat} {w : World} {a : Option Addr} {c n : Nat} {xs : List Value} {u : Value} (h : OwnL E 1 base w a c (n + 1) (xs ++ [u])) : OwnL E 1 base w a c n xs := by
  have hl := h.1
  simp at hl
  refine ⟨by omega, ?_⟩
  rcases h.2 with ⟨_, h0⟩ | ⟨g, cap, cur, hv, hbg, hg, hnc, hcm, hcs, ht⟩
  · omega
  · simp only [Value.slice.injEq, true_and] at hv
    obtain ⟨rfl, rfl⟩ := hv
    refine .inr ⟨g, c, cur, rfl, hbg, hg, by omega, hcm, hcs, ?_⟩
    have := congrArg (List.take n) ht
    rw [List.take_take, Nat.mul_one, Nat.min_eq_left (by omega), List.take_left' hl] at this
    rw [Nat.mul_one]
    exact this
theorem StrsAt.keep {base Bo B : Nat} {tb : Option Nat} {w w' : World} (h : KeepT base Bo tb w w') {a : Option Addr} {xs : List ByteArray} (hx : StrsAt w a xs) (hlt : ∀ ad, a = some ad → ad.block < B) (hB : B ≤ Bo) (hb : B ≤ base) (ht : ∀ g, tb = some g → base ≤ g) : StrsAt w' a xs := fun k hk => by
  obtain ⟨b, off, rfl, hlw, hc⟩ := hx k hk
  have hbB : b < B := hlt _ rfl
  have e := h.block b hlw (by omega) (fun e => by have := ht b e.symm; omega) (.inl (by omega))
  refine ⟨b, off, rfl, Nat.lt_of_lt_of_le hlw h.size, ?_⟩
  rw [← hc]
  simp only [World.cell?, e]
end Go.Proofs.Ytnofcpihkglmmaa
