/- cipher: may, minimum, the memo · cipher: the memo of Plan · cipher: the memo's world laws · cipher: fewest · cipher: extend (Plan$1): what is appended to a list that a captured variable holds -/
import Derived.Test.YtmplgcefhpobgaaCla
import Derived.Test.YtmplgcefhpobgaaClb
import Derived.Test.YtmplgcefhpobgaaClc
import Derived.Test.YtmplgcefhpobgaaCld
import Derived.DeepKeys4
import Derived.Maps.OwnSet
namespace Go.Proofs.Ytmplgcefhpobgaa
set_option linter.unusedVariables false
set_option linter.unusedSimpArgs false
set_option linter.unnecessarySimpa false
open Go.RowKit Go.Flow

theorem may_any (b0 : Nat) (al : Option Addr) (lost : List (Int × Int)) (cl : Nat) (m : Int) (s : Spot) (k : Nat) (hk : k < 5) (w : World) (hb0 : b0 < w.heap.size)
    (h4 : w.cell? ⟨b0, 4, none⟩ = some (.slice al lost.length cl)) (h5 : w.cell? ⟨b0, 5, none⟩ = some (.int .i64 m)) (hl : Recs2At w al lost) (ll : lost.length ≤ 1000) (hs : s.Fine) :
    Calls Try.prog 77 #[Value.pointer (some ⟨b0, 0, none⟩), s.val, .int .i64 k] w
      fun e w' => e = .returned (mayRes (hadN lost k) m s k) ∧ Below w.heap.size w w' := by
  obtain ⟨d, la, u0, u1, u2, u3, u4⟩ := s
  obtain ⟨d0, d1, _, _, n0, n1, n2, n3, n4⟩ := hs
  match k, hk with
  | 0, _ => exact may_0 b0 al lost cl m d la u0 u1 u2 u3 u4 w hb0 h4 h5 hl ll ⟨d0, d1⟩ n0
  | 1, _ => exact may_1 b0 al lost cl m d la u0 u1 u2 u3 u4 w hb0 h4 h5 hl ll ⟨d0, d1⟩ n1
  | 2, _ => exact may_2 b0 al lost cl m d la u0 u1 u2 u3 u4 w hb0 h4 h5 hl ll ⟨d0, d1⟩ n2
  | 3, _ => exact may_3 b0 al lost cl m d la u0 u1 u2 u3 u4 w hb0 h4 h5 hl ll ⟨d0, d1⟩ n3
  | 4, _ => exact may_4 b0 al lost cl m d la u0 u1 u2 u3 u4 w hb0 h4 h5 hl ll ⟨d0, d1⟩ n4

set_option maxHeartbeats 1000000 in
theorem min_two (a : Option Addr) (x y : Int) (c : Nat) (w : World) (h : IntsAt w a [x, y]) :
    Calls Try.prog 102 #[.slice a 2 c] w fun e w' => e = .returned (.int .i64 (min x y)) ∧ Below w.heap.size w w' := by
  obtain ⟨b, off, rfl, hb, h0⟩ := h 0 (by simp)
  obtain ⟨b', off', he, _, h1⟩ := h 1 (by simp)
  simp only [Option.some.injEq, Addr.mk.injEq] at he
  obtain ⟨rfl, rfl, _⟩ := he
  simp at h0 h1
  clear h
  go_enter Try.func102, Try.ntmps102
  go_wp2
  go_loopw [3, 4] (fun f i wr => ∃ k : Nat, 1 ≤ k ∧ k ≤ 2 ∧ i = .int .i64 k ∧ f = .int .i64 (if k = 1 then x else min x y) ∧ wr = w) (fun _ i _ => 2 - (intOf i).toNat)
  case atStart => exact ⟨1, by omega, by omega, rfl, rfl, rfl⟩
  case round =>
    obtain ⟨k, hk1, hk2, rfl, rfl, rfl⟩ := hrel
    by_cases hlt : k = 1
    · subst hlt
      by_cases hxy : y < x
      · have hm : min x y = y := Int.min_eq_right (by omega)
        go_wp2
        go_roundw
        case rel => exact ⟨2, by omega, by omega, by go_num, by simp [hm], by simp⟩
        case measure => simp [intOf]
      · have hm : min x y = x := Int.min_eq_left (by omega)
        have hxy2 : x ≤ y := by omega
        go_wp2
        go_roundw
        case rel => exact ⟨2, by omega, by omega, by go_num, by simp [hm], by simp⟩
        case measure => simp [intOf]
    · obtain rfl : k = 2 := by omega
      go_wp2
      go_ret
      exact ⟨rfl, Below.refl _ _⟩

theorem minimum_two (a : Option Addr) (x y : Int) (c : Nat) (w : World) (h : IntsAt w a [x, y]) :
    Calls Try.prog 93 #[.slice a 2 c] w fun e w' => e = .returned (.int .i64 (min x y)) ∧ Below w.heap.size w w' := by
  go_enter Try.func93, Try.ntmps93
  go_wp2_with (go_at_call 102; refine (min_two a x y c _ h).mono ?_; rintro e w1 ⟨rfl, hb1⟩; obtain ⟨hc1, hf1, hz1⟩ := bcell hb1; (try simp at hz1); (try (have hy0 : w.heap.size < w1.heap.size := by omega)); (try (have hy1 : w.heap.size + 1 < w1.heap.size := by omega)); (try (have hy2 : w.heap.size + 2 < w1.heap.size := by omega)))
  go_ret
  exact ⟨rfl, by (repeat (first | exact Below.refl _ _ | refine Below.alloc ?_ (by first | omega | (simp; done) | (simp; omega)) _ | refine Below.drew ?_ | refine Below.setCell ?_ (by first | omega | (simp; done) | (simp; omega)) _ | refine Below.trans ?_ (Below.mono (by assumption) (by first | omega | (simp; done) | (simp; omega)))))⟩

end Go.Proofs.Ytmplgcefhpobgaa

namespace Go.Proofs.Ytmplgcefhpobgaa
set_option linter.unusedVariables false
set_option linter.unusedSimpArgs false
set_option linter.unnecessarySimpa false
open Go.RowKit Go.Flow
open Go.Maps (Keyed)

theorem laidOut' : laidOutB Try.prog = true := by kernel_rfl
theorem spotRow : (121 : TypeId) < Try.prog.types.size := of_decide_eq_true (by kernel_rfl)
theorem spotWide : (match Try.prog.underlying 121 with | some (.array _ _) | some (.struct _) => true | _ => false) = true := by kernel_rfl
set_option maxRecDepth 100000 in
theorem spotKeyed : Keyed Try.prog 121 := Keyed.of_law (deep_law_laid laidOut' (m := 4) (by omega) spotRow (by kernel_rfl) spotWide)
theorem spotCells : Try.prog.cellsOf 121 = 7 := by kernel_rfl
theorem usesCells : Try.prog.cellsOf 119 = 5 := by kernel_rfl
theorem intCells : Try.prog.cellsOf 3 = 1 := by kernel_rfl
theorem spotKeyType : Try.prog.keyType 121 = true := by kernel_rfl
theorem manyTypes : 2 ≤ Try.prog.types.size := of_decide_eq_true (by kernel_rfl)

theorem i64_wf (x : Int) (h0 : 0 ≤ x) (h1 : x ≤ 1000000) : (Lit.int .i64 x).wf = true := by
  simp [Lit.wf, IntKind.min, IntKind.max, IntKind.bits, IntKind.signed]
  omega

theorem lits_int (n : Nat) (x : Int) (h : (Lit.int .i64 x).wf = true) : Try.prog.keyLits (n + 1) 3 [.int .i64 x] = some [.int .i64 x] := by
  simp only [Program.keyLits, Try.underlying3]
  simp [h]

theorem lits_uses (n : Nat) (a b c d e : Int) (ha : (Lit.int .i64 a).wf = true) (hb : (Lit.int .i64 b).wf = true) (hc : (Lit.int .i64 c).wf = true) (hd : (Lit.int .i64 d).wf = true) (he : (Lit.int .i64 e).wf = true) :
    ∃ l, Try.prog.keyLits (n + 2) 119 [.int .i64 a, .int .i64 b, .int .i64 c, .int .i64 d, .int .i64 e] = some l := by
  rw [show n + 2 = (n + 1) + 1 from rfl]
  have e0 := lits_int n a ha
  have e1 := lits_int n b hb
  have e2 := lits_int n c hc
  have e3 := lits_int n d hd
  have e4 := lits_int n e he
  refine ⟨[.int .i64 a, .int .i64 b, .int .i64 c, .int .i64 d, .int .i64 e], ?_⟩
  unfold Program.keyLits
  rw [Try.underlying119]
  dsimp only
  rw [usesCells, intCells]
  simp only [List.range, List.range.loop, List.mapM_cons, List.mapM_nil]
  simp [e0, e1, e2, e3, e4]

theorem lits_spot (n : Nat) (s : Spot) (h : s.Fine) : ∃ l, Try.prog.keyLits (n + 3) 121 s.val.cells.toList = some l := by
  obtain ⟨d, la, u0, u1, u2, u3, u4⟩ := s
  obtain ⟨d0, d1, l0, l1, n0, n1, n2, n3, n4⟩ := h
  have e0 := lits_int (n + 1) d (i64_wf d d0 d1)
  have e1 := lits_int (n + 1) la (i64_wf la l0 l1)
  obtain ⟨l, e2⟩ := lits_uses n u0 u1 u2 u3 u4 (i64_wf u0 n0.1 n0.2) (i64_wf u1 n1.1 n1.2) (i64_wf u2 n2.1 n2.2) (i64_wf u3 n3.1 n3.2) (i64_wf u4 n4.1 n4.2)
  refine ⟨[.int .i64 d, .int .i64 la] ++ l, ?_⟩
  unfold Program.keyLits
  rw [Try.underlying121]
  dsimp only
  rw [spotCells]
  simp only [Spot.val, Value.cells]
  simp [usesCells, intCells, e0, e1, e2]

theorem spot_key (s : Spot) (h : s.Fine) : ∃ kl, keyOf Try.prog 121 s.val = some kl := by
  have hn : Try.prog.types.size + 1 = (Try.prog.types.size - 2) + 3 := by have := manyTypes; omega
  obtain ⟨l, hl⟩ := lits_spot (Try.prog.types.size - 2) s h
  have hf : Value.formed Try.prog 121 s.val = true := by
    obtain ⟨d, la, u0, u1, u2, u3, u4⟩ := s
    simp [Value.formed, Try.underlying121, Spot.val, spotCells]
  unfold keyOf
  rw [hn, spotKeyType, hf, Try.underlying121]
  dsimp only
  rw [hl]
  exact ⟨_, rfl⟩

end Go.Proofs.Ytmplgcefhpobgaa

namespace Go.Proofs.Ytmplgcefhpobgaa
set_option linter.unusedVariables false
set_option linter.unusedSimpArgs false
set_option linter.unnecessarySimpa false
open Go.RowKit Go.Flow
open Go.Maps (Keyed)

def IsMapAt (w : World) (b : Nat) : Prop := ∃ es c, w.heap[b]? = some (.map es c)

/-- w' is w but for new memory and for the map in block bm. -/
structure Keep (bm : Nat) (w w' : World) : Prop where
  grown : w.grownBy w' (some bm)
  old : IsMapAt w bm
  new : IsMapAt w' bm

theorem grown_of_below {w w' : World} (hb : Below w.heap.size w w') (row : Option Nat) : w.grownBy w' row := ⟨hb.os, hb.tape, hb.output, hb.size, fun k hk _ => hb.block k hk⟩
theorem IsMapAt.below {w w' : World} {b : Nat} (h : IsMapAt w b) (hb : Below w.heap.size w w') : IsMapAt w' b := by
  obtain ⟨es, c, hm⟩ := h
  exact ⟨es, c, (hb.block b (Array.getElem?_eq_some_iff.1 hm).1).trans hm⟩
theorem Keep.refl {bm : Nat} {w : World} (h : IsMapAt w bm) : Keep bm w w := ⟨World.grownBy.refl _ _, h, h⟩
theorem Keep.of_below {bm : Nat} {w w' : World} (h : IsMapAt w bm) (hb : Below w.heap.size w w') : Keep bm w w' := ⟨grown_of_below hb _, h, h.below hb⟩
theorem Keep.trans {bm : Nat} {a b c : World} (h : Keep bm a b) (k : Keep bm b c) : Keep bm a c := ⟨h.grown.trans k.grown, h.old, k.new⟩
theorem Keep.size {bm : Nat} {w w' : World} (h : Keep bm w w') : w.heap.size ≤ w'.heap.size := h.grown.size
theorem Keep.below {bm : Nat} {a b c : World} (h : Keep bm a b) (hb : Below b.heap.size b c) : Keep bm a c := h.trans (.of_below h.new hb)

theorem cell_lt {w : World} {a : Addr} {v : Value} (h : w.cell? a = some v) : a.block < w.heap.size := by
  by_cases e : a.block < w.heap.size
  · exact e
  · have : w.heap[a.block]? = none := Array.getElem?_eq_none (by omega)
    simp [World.cell?, this] at h
theorem IsMapAt.ne {w : World} {b : Nat} (h : IsMapAt w b) {a : Addr} {v : Value} (hc : w.cell? a = some v) : a.block ≠ b := by
  intro e
  obtain ⟨es, c, hm⟩ := h
  rw [← e] at hm
  simp [World.cell?, hm] at hc
theorem Keep.cell {bm : Nat} {w w' : World} (h : Keep bm w w') {a : Addr} {v : Value} (hc : w.cell? a = some v) : w'.cell? a = some v :=
  h.grown.cell hc (fun e => h.old.ne hc (Option.some.inj e))
theorem below_cell {w w' : World} (hb : Below w.heap.size w w') {a : Addr} {v : Value} (hc : w.cell? a = some v) : w'.cell? a = some v := (hb.cell (cell_lt hc)).trans hc
theorem IntsAt.keep {bm : Nat} {w w' : World} {a : Option Addr} {xs : List Int} (h : IntsAt w a xs) (k : Keep bm w w') : IntsAt w' a xs := fun i hi =>
  let ⟨b, off, ha, hlt, hc⟩ := h i hi
  ⟨b, off, ha, Nat.lt_of_lt_of_le hlt k.size, k.cell hc⟩
theorem Recs2At.keep {bm : Nat} {w w' : World} {a : Option Addr} {xs : List (Int × Int)} (h : Recs2At w a xs) (k : Keep bm w w') : Recs2At w' a xs := fun i hi =>
  let ⟨b, off, ha, hlt, h0, h1⟩ := h i hi
  ⟨b, off, ha, Nat.lt_of_lt_of_le hlt k.size, k.cell h0, k.cell h1⟩

/-- Every entry of the map is what G says. -/
def MemoAt (w : World) (bm n : Nat) (G : Spot → Int) : Prop :=
  ∃ D : DataW Unit, w.ownsMap Try.prog 121 (plainElem Try.prog 3) bm n D ∧
    ∀ s kl, keyOf Try.prog 121 s.val = some kl → Go.Maps.has D kl = true → D.atKey kl (.lit (.int .i64 0)) = .lit (.int .i64 (G s))

theorem MemoAt.isMap {w : World} {bm n : Nat} {G : Spot → Int} (h : MemoAt w bm n G) : IsMapAt w bm := by
  obtain ⟨D, ⟨es, c, hm, _⟩, _⟩ := h
  exact ⟨es, c, hm⟩
theorem MemoAt.lt {w : World} {bm n : Nat} {G : Spot → Int} (h : MemoAt w bm n G) : bm < w.heap.size := by
  obtain ⟨D, ho, _⟩ := h
  exact ho.lt
theorem MemoAt.mono {w : World} {bm n n' : Nat} {G : Spot → Int} (h : MemoAt w bm n G) (hn : n ≤ n') : MemoAt w bm n' G := by
  obtain ⟨D, ho, hG⟩ := h
  exact ⟨D, ho.mono hn, hG⟩
theorem MemoAt.below {w w' : World} {bm n : Nat} {G : Spot → Int} (h : MemoAt w bm n G) (hb : Below w.heap.size w w') : MemoAt w' bm n G := by
  obtain ⟨D, ho, hG⟩ := h
  exact ⟨D, ho.kept (grown_of_below hb none) (by simp), hG⟩
theorem MemoAt.made (w : World) (G : Spot → Int) : MemoAt (w.alloc (.map #[] 0)) w.heap.size 0 G :=
  ⟨.map [], World.ownsMap_made w _ _ _, fun s kl _ h => by simp [Go.Maps.has] at h⟩

theorem zeroInt (w : World) : (zeroValue 3).run Try.prog w = .ok (.int .i64 0) w := by kernel_rfl

theorem MemoAt.look {w : World} {bm n : Nat} {G : Spot → Int} (h : MemoAt w bm n G) (s : Spot) (hs : s.Fine) :
    ∃ (c : Int) (b : Bool), (∀ e : Ext w, (Instr.lookup 114 (.map (some bm)) s.val true).run Try.prog e.to = .ok (.tuple #[.int .i64 c, .bool b]) e.to) ∧ (b = true → c = G s) := by
  obtain ⟨D, ho, hG⟩ := h
  obtain ⟨kl, hkl⟩ := spot_key s hs
  have key : ∀ e : Ext w, ∃ c : Int, (Instr.lookup 114 (.map (some bm)) s.val true).run Try.prog e.to = .ok (.tuple #[.int .i64 c, .bool (Go.Maps.has D kl)]) e.to ∧ D.atKey kl (.lit (.int .i64 0)) = .lit (.int .i64 c) := by
    intro e
    obtain ⟨v, ps, hrun, hv⟩ := World.ownsMap.look_ok (ho.kept (grown_of_below e.below none) (by simp)) spotKeyed Try.underlying114 (zeroInt e.to) (plainElem_int Try.underlying3 (by decide)) hkl
    obtain ⟨c, rfl, hc, _⟩ := plainElem_int_inv Try.underlying3 hv
    exact ⟨c, hrun, congrArg Prod.fst hc⟩
  obtain ⟨c, _, h2⟩ := key ⟨w, Below.refl _ _⟩
  refine ⟨c, Go.Maps.has D kl, fun e => ?_, fun hb => ?_⟩
  · obtain ⟨c', h1', h2'⟩ := key e
    rw [h2] at h2'
    have e2 : c = c' := by simpa using h2'
    subst e2
    exact h1'
  · have := hG s kl hkl hb
    rw [h2] at this
    simpa using this

theorem wpList_memo_put {w : World} {ops : Array Oper} {rest : List Oper} {o : Oper} {a : Act} {Q : Exit → Act → World → Prop} {bm n : Nat} {G : Spot → Int} (s : Spot) (hs : s.Fine)
    (hg : o.guard = none) (m x v : Operand) (hop : o.op = Op.mapUpdate 114 m x v) (hm : a.eval m = .map (some bm)) (hx : a.eval x = s.val) (c : Int) (hv : a.eval v = .int .i64 c)
    (hc : c = G s) (hwf : (Lit.int .i64 c).wf = true) (h : MemoAt w bm n G) (hn : n < maxLen) (hK : ∀ w', MemoAt w' bm (n + 1) G → Keep bm w w' → wpList Try.prog ops Q rest (a.put o.dst undef) w') :
    wpList Try.prog ops Q (o :: rest) a w := by
  have hmap := h.isMap
  obtain ⟨D, ho, hG⟩ := h
  obtain ⟨kl, hkl⟩ := spot_key s hs
  refine wpList_mapUpdate_own w hg m x v 114 hop 121 3 spotKeyed Try.underlying114 (plainElem Try.prog 3) bm n D hm ho hn s.val (.int .i64 c) kl hx hv hkl
    (.lit (.int .i64 c)) [] (plainElem_int Try.underlying3 hwf) fun w' ho' hgr => ?_
  have hM : MemoAt w' bm (n + 1) G := by
    refine ⟨_, ho', fun s' kl' hkl' hh => ?_⟩
    by_cases e : kl' = kl
    · subst e
      have es := spotKeyed.inj hkl hkl'
      have es2 : s = s' := by
        obtain ⟨a0, a1, a2, a3, a4, a5, a6⟩ := s
        obtain ⟨b0, b1, b2, b3, b4, b5, b6⟩ := s'
        simp [Spot.val] at es
        simp [es]
      subst es2
      rw [Go.Maps.atKey_put_same ho.isMap (spotKeyed.key hkl), hc]
    · rw [Go.Maps.has_put_other e] at hh
      rw [Go.Maps.atKey_put_other e]
      exact hG s' kl' hkl' hh
  exact hK w' hM ⟨hgr, hmap, hM.isMap⟩

end Go.Proofs.Ytmplgcefhpobgaa

namespace Go.Proofs.Ytmplgcefhpobgaa
set_option linter.unusedVariables false
set_option linter.unusedSimpArgs false
set_option linter.unnecessarySimpa false
open Go.RowKit Go.Flow

def fewStep (F : Nat → Int) (m : Int) (s : Spot) (g : Spot → Int) (n : Int) (k : Nat) : Int := if mayB (F k) m s k then min n (mayC s k + g (s.bump k)) else n
def fewR (F : Nat → Int) (m : Int) (nk : Nat) : Nat → Spot → Int
  | 0, _ => 0
  | r + 1, s => (List.range nk).foldl (fewStep F m s (fewR F m nk r)) 1048576
def fewK (F : Nat → Int) (m : Int) (nk : Nat) (r : Nat) (s : Spot) (j : Nat) : Int := (List.range j).foldl (fewStep F m s (fewR F m nk r)) 1048576
theorem fewK_succ (F : Nat → Int) (m : Int) (nk : Nat) (r : Nat) (s : Spot) (j : Nat) : fewK F m nk r s (j + 1) = fewStep F m s (fewR F m nk r) (fewK F m nk r s j) j := by
  unfold fewK
  rw [List.range_succ, List.foldl_append]
  rfl
theorem mayC_b (s : Spot) (k : Nat) : 0 ≤ mayC s k ∧ mayC s k ≤ 1 := by
  unfold mayC
  split <;> omega
theorem few_fold_b (F : Nat → Int) (m : Int) (s : Spot) (g : Spot → Int) (hg : ∀ t, 0 ≤ g t) : ∀ (l : List Nat) (n : Int), 0 ≤ n → n ≤ 1048576 → 0 ≤ l.foldl (fewStep F m s g) n ∧ l.foldl (fewStep F m s g) n ≤ 1048576
  | [], n, h0, h1 => ⟨h0, h1⟩
  | k :: l, n, h0, h1 => by
    have hc := mayC_b s k
    have hgk := hg (s.bump k)
    refine few_fold_b F m s g hg l _ ?_ ?_
    · unfold fewStep; split <;> omega
    · unfold fewStep; split <;> omega
theorem fewR_b (F : Nat → Int) (m : Int) (nk : Nat) : ∀ (r : Nat) (s : Spot), 0 ≤ fewR F m nk r s ∧ fewR F m nk r s ≤ 1048576
  | 0, _ => by simp [fewR]
  | r + 1, s => few_fold_b F m s _ (fun t => (fewR_b F m nk r t).1) _ _ (by omega) (by omega)
theorem fewK_b (F : Nat → Int) (m : Int) (nk r : Nat) (s : Spot) (j : Nat) : 0 ≤ fewK F m nk r s j ∧ fewK F m nk r s j ≤ 1048576 :=
  few_fold_b F m s _ (fun t => (fewR_b F m nk r t).1) _ _ (by omega) (by omega)

def cost : Nat → Nat
  | 0 => 0
  | r + 1 => 1 + 5 * cost r

structure Spot.Ok (s : Spot) (nd : Nat) : Prop where
  d0 : 0 ≤ s.day
  d1 : s.day ≤ nd
  l0 : 0 ≤ s.last
  l1 : s.last ≤ 5
  n0 : 0 ≤ s.u0 ∧ s.u0 ≤ s.day
  n1 : 0 ≤ s.u1 ∧ s.u1 ≤ s.day
  n2 : 0 ≤ s.u2 ∧ s.u2 ≤ s.day
  n3 : 0 ≤ s.u3 ∧ s.u3 ≤ s.day
  n4 : 0 ≤ s.u4 ∧ s.u4 ≤ s.day
theorem Spot.Ok.fine {s : Spot} {nd : Nat} (h : s.Ok nd) (hn : nd ≤ 1000) : s.Fine := by
  obtain ⟨d, la, u0, u1, u2, u3, u4⟩ := s
  obtain ⟨d0, d1, l0, l1, n0, n1, n2, n3, n4⟩ := h
  simp only at *
  constructor <;> simp only <;> omega
theorem Spot.Ok.bump {s : Spot} {nd : Nat} (h : s.Ok nd) (hd : s.day < nd) (k : Nat) : (s.bump k).Ok nd := by
  obtain ⟨d, la, u0, u1, u2, u3, u4⟩ := s
  obtain ⟨d0, d1, l0, l1, n0, n1, n2, n3, n4⟩ := h
  simp only at *
  match k with
  | 0 => constructor <;> simp only [Spot.bump] <;> omega
  | 1 => constructor <;> simp only [Spot.bump] <;> omega
  | 2 => constructor <;> simp only [Spot.bump] <;> omega
  | 3 => constructor <;> simp only [Spot.bump] <;> omega
  | k + 4 => constructor <;> simp only [Spot.bump] <;> omega
theorem bump_day (s : Spot) (k : Nat) : (s.bump k).day = s.day + 1 := by
  match k with
  | 0 | 1 | 2 | 3 => rfl
  | k + 4 => rfl

/-- A work: its book's lists, its losses, its bound, its map. -/
structure WorkAt (w : World) (b0 bm : Nat) (ak : Option Addr) (nk ck : Nat) (ad : Option Addr) (nd cd : Nat) (al : Option Addr) (lost : List (Int × Int)) (cl : Nat) (m : Int) : Prop where
  c2 : w.cell? ⟨b0, 2, none⟩ = some (.slice ak nk ck)
  c3 : w.cell? ⟨b0, 3, none⟩ = some (.slice ad nd cd)
  c4 : w.cell? ⟨b0, 4, none⟩ = some (.slice al lost.length cl)
  c5 : w.cell? ⟨b0, 5, none⟩ = some (.int .i64 m)
  c6 : w.cell? ⟨b0, 6, none⟩ = some (.map (some bm))
  hl : Recs2At w al lost
theorem WorkAt.keep {w w' : World} {b0 bm : Nat} {ak : Option Addr} {nk ck : Nat} {ad : Option Addr} {nd cd : Nat} {al : Option Addr} {lost : List (Int × Int)} {cl : Nat} {m : Int} (h : WorkAt w b0 bm ak nk ck ad nd cd al lost cl m) (k : Keep bm w w') :
    WorkAt w' b0 bm ak nk ck ad nd cd al lost cl m := ⟨k.cell h.c2, k.cell h.c3, k.cell h.c4, k.cell h.c5, k.cell h.c6, h.hl.keep k⟩
theorem WorkAt.below {w w' : World} {b0 bm : Nat} {ak : Option Addr} {nk ck : Nat} {ad : Option Addr} {nd cd : Nat} {al : Option Addr} {lost : List (Int × Int)} {cl : Nat} {m : Int} (h : WorkAt w b0 bm ak nk ck ad nd cd al lost cl m) (k : Below w.heap.size w w') :
    WorkAt w' b0 bm ak nk ck ad nd cd al lost cl m := ⟨below_cell k h.c2, below_cell k h.c3, below_cell k h.c4, below_cell k h.c5, below_cell k h.c6, h.hl.below k⟩
theorem WorkAt.lt {w : World} {b0 bm : Nat} {ak : Option Addr} {nk ck : Nat} {ad : Option Addr} {nd cd : Nat} {al : Option Addr} {lost : List (Int × Int)} {cl : Nat} {m : Int} (h : WorkAt w b0 bm ak nk ck ad nd cd al lost cl m) : b0 < w.heap.size := cell_lt h.c2

theorem i64_wf_big (x : Int) (h0 : 0 ≤ x) (h1 : x ≤ 2000000) : (Lit.int .i64 x).wf = true := by
  simp [Lit.wf, IntKind.min, IntKind.max, IntKind.bits, IntKind.signed]
  omega

theorem ints_two (w : World) (x y : Int) (T : TypeId) : IntsAt (w.alloc (.cells #[.int .i64 x, .int .i64 y] T)) (some ⟨w.heap.size, 0, none⟩) [x, y] := by
  have hh := (MapKept.heap_alloc w (.cells #[.int .i64 x, .int .i64 y] T)).1
  intro k hk
  refine ⟨w.heap.size, 0, rfl, (Array.getElem?_eq_some_iff.1 hh).1, ?_⟩
  show (match (w.alloc (.cells #[.int .i64 x, .int .i64 y] T)).heap[w.heap.size]? with | some (.cells c _ _) => c[0 + k]? | _ => none) = _
  rw [hh]
  match k, hk with
  | 0, _ => rfl
  | 1, _ => rfl

set_option maxRecDepth 100000 in
set_option maxHeartbeats 1000000 in
theorem fewest_any (b0 bm : Nat) (ak : Option Addr) (nk ck : Nat) (ad : Option Addr) (nd cd : Nat) (al : Option Addr) (lost : List (Int × Int)) (cl : Nat) (m : Int) (hnk : nk ≤ 5) (hnd : nd ≤ 100) (ll : lost.length ≤ 1000) :
    ∀ (r : Nat) (s : Spot) (n : Nat) (w : World), s.day + r = nd → s.Ok nd → WorkAt w b0 bm ak nk ck ad nd cd al lost cl m →
      MemoAt w bm n (fun s => fewR (fun k => hadN lost k) m nk (nd - s.day).toNat s) → n + cost r < maxLen →
    Calls Try.prog 75 #[Value.pointer (some ⟨b0, 0, none⟩), s.val] w fun e w' => e = .returned (.int .i64 (fewR (fun k => hadN lost k) m nk r s)) ∧ Keep bm w w' ∧
      MemoAt w' bm (n + cost r) (fun s => fewR (fun k => hadN lost k) m nk (nd - s.day).toNat s) := by
  generalize hG : (fun s : Spot => fewR (fun k => hadN lost k) m nk (nd - s.day).toNat s) = G
  intro r
  induction r with
  | zero =>
    rintro ⟨d, la, u0, u1, u2, u3, u4⟩ n w hday hs hw hm hn
    simp only at hday
    have hd : d = nd := by omega
    have hb0 := hw.lt
    have h3 := hw.c3
    show Calls Try.prog 75 #[Value.pointer (some ⟨b0, 0, none⟩), .agg #[.int .i64 d, .int .i64 la, .int .i64 u0, .int .i64 u1, .int .i64 u2, .int .i64 u3, .int .i64 u4]] w _
    subst hd
    go_enter Try.func75, Try.ntmps75
    go_wp2
    have hbx : Below w.heap.size w (w.alloc (.cells #[.int .i64 nd, .int .i64 la, .int .i64 u0, .int .i64 u1, .int .i64 u2, .int .i64 u3, .int .i64 u4] 121)) := by (repeat (first | exact Below.refl _ _ | refine Below.alloc ?_ (by first | omega | (simp; done) | (simp; omega)) _ | refine Below.drew ?_ | refine Below.setCell ?_ (by first | omega | (simp; done) | (simp; omega)) _ | refine Below.trans ?_ (Below.mono (by assumption) (by first | omega | (simp; done) | (simp; omega)))))
    (refine wp_region_ext 9 (by kernel_rfl) (by kernel_rfl) ?_; simp only [List.take_succ_cons, List.take_zero, List.drop_succ_cons, List.drop_zero]; (repeat (go_big_quiet_step ((fail)))); refine wpQuiet_nil ?_; rintro _ ⟨ex, rfl⟩; have hex := ex.below; have hexz := ex.size; (try simp at hexz); (try (have hy0 : w.heap.size < ex.to.heap.size := by omega)); (try (have hy1 : w.heap.size + 1 < ex.to.heap.size := by omega)); (try (have hy2 : w.heap.size + 2 < ex.to.heap.size := by omega)))
    go_wp2
    go_ret
    have hwe := hbx.trans (hex.mono hbx.size)
    exact ⟨rfl, Keep.of_below hm.isMap hwe, (hm.below hwe).mono (by omega)⟩
  | succ r ih =>
    rintro ⟨d, la, u0, u1, u2, u3, u4⟩ n w hday hs hw hm hn
    simp only at hday
    have hdl : d < nd := by omega
    have hd0 := hs.d0
    simp only at hd0
    have t1 : (d == (nd : Int)) = false := by simp; omega
    have hfine := hs.fine (by omega)
    have hGs : G ⟨d, la, u0, u1, u2, u3, u4⟩ = fewR (fun k => hadN lost k) m nk (r + 1) ⟨d, la, u0, u1, u2, u3, u4⟩ := by
      rw [← hG]
      simp only
      rw [show ((nd : Int) - d).toNat = r + 1 by omega]
    have hb0 := hw.lt
    have h3 := hw.c3
    show Calls Try.prog 75 #[Value.pointer (some ⟨b0, 0, none⟩), .agg #[.int .i64 d, .int .i64 la, .int .i64 u0, .int .i64 u1, .int .i64 u2, .int .i64 u3, .int .i64 u4]] w _
    go_enter Try.func75, Try.ntmps75
    go_wp2
    have hbx : Below w.heap.size w (w.alloc (.cells #[.int .i64 d, .int .i64 la, .int .i64 u0, .int .i64 u1, .int .i64 u2, .int .i64 u3, .int .i64 u4] 121)) := by (repeat (first | exact Below.refl _ _ | refine Below.alloc ?_ (by first | omega | (simp; done) | (simp; omega)) _ | refine Below.drew ?_ | refine Below.setCell ?_ (by first | omega | (simp; done) | (simp; omega)) _ | refine Below.trans ?_ (Below.mono (by assumption) (by first | omega | (simp; done) | (simp; omega)))))
    obtain ⟨k0, k1, k2, k3, k4, k5, k6⟩ := box_spot (w := w) (T := 121) (Below.refl (w.heap.size + 1) (w.alloc (.cells #[.int .i64 d, .int .i64 la, .int .i64 u0, .int .i64 u1, .int .i64 u2, .int .i64 u3, .int .i64 u4] 121)))
    (refine wp_region_ext 9 (by kernel_rfl) (by kernel_rfl) ?_; simp only [List.take_succ_cons, List.take_zero, List.drop_succ_cons, List.drop_zero]; (repeat (go_big_quiet_step ((fail)))); refine wpQuiet_nil ?_; rintro wA ⟨⟨_, hex⟩, rfl⟩; (try dsimp only); obtain ⟨hc1, hf1, hz1⟩ := bcell hex; (try simp at hz1); (try (have hy0 : w.heap.size < wA.heap.size := by omega)); (try (have hy1 : w.heap.size + 1 < wA.heap.size := by omega)); (try (have hy2 : w.heap.size + 2 < wA.heap.size := by omega)))
    clear hc1 hf1
    have hwA := hbx.trans (hex.mono hbx.size)
    have hxA : Below (w.heap.size + 1) (w.alloc (.cells #[.int .i64 d, .int .i64 la, .int .i64 u0, .int .i64 u1, .int .i64 u2, .int .i64 u3, .int .i64 u4] 121)) wA := hex.mono (by simp)
    clear k0 k1 k2 k3 k4 k5 k6 h3
    obtain ⟨k0, k1, k2, k3, k4, k5, k6⟩ := box_spot hxA
    have hkA := hw.below hwA
    have hmA := hm.below hwA
    have hzA : w.heap.size < wA.heap.size := by omega
    have hbA : b0 < wA.heap.size := by omega
    have h2 := hkA.c2
    have h3 := hkA.c3
    have h6 := hkA.c6
    obtain ⟨c, hit, hlk, hcG⟩ := hmA.look ⟨d, la, u0, u1, u2, u3, u4⟩ hfine
    simp only [Spot.val] at hlk
    cases hit
    · clear hcG
      go_wp2
      (refine wp_region_ext 11 (by kernel_rfl) (by kernel_rfl) ?_; simp only [List.take_succ_cons, List.take_zero, List.drop_succ_cons, List.drop_zero]; (repeat (go_big_quiet_step ((fail)))); refine wpQuiet_nil ?_; rintro wS ⟨⟨_, hex⟩, rfl⟩; (try dsimp only); obtain ⟨hc1, hf1, hz1⟩ := bcell hex; (try simp at hz1); (try (have hy0 : w.heap.size < wS.heap.size := by omega)); (try (have hy1 : w.heap.size + 1 < wS.heap.size := by omega)); (try (have hy2 : w.heap.size + 2 < wS.heap.size := by omega)))
      clear hc1 hf1
      have hwS := hwA.trans (hex.mono hwA.size)
      have hkS := hkA.below hex
      have hmS := hmA.below hex
      have q0 := below_cell hex k0
      have q1 := below_cell hex k1
      have q2 := below_cell hex k2
      have q3 := below_cell hex k3
      have q4 := below_cell hex k4
      have q5 := below_cell hex k5
      have q6 := below_cell hex k6
      have hzS : w.heap.size < wS.heap.size := by omega
      have g2 := hkS.c2
      clear k0 k1 k2 k3 k4 k5 k6 h2 h3 h6 hlk
      go_wp2
      obtain ⟨F, hF⟩ : ∃ F : Nat → Int, (fun k : Nat => hadN lost k) = F := ⟨_, rfl⟩
      rw [hF] at hGs ih
      have hFk : ∀ k : Nat, hadN lost k = F k := fun k => by rw [← hF]
      go_loopw [5, 7, 8, 9, 10, 37] (fun v _ _ _ _ i wr => ∃ j : Nat, j ≤ nk ∧ i = .int .i64 j ∧ v = .int .i64 (fewK F m nk r ⟨d, la, u0, u1, u2, u3, u4⟩ j) ∧ Keep bm wS wr ∧ MemoAt wr bm (n + j * cost r) G)
        (fun _ _ _ _ _ i _ => nk - (intOf i).toNat)
      case atStart => exact ⟨0, Nat.zero_le _, rfl, rfl, Keep.refl hmS.isMap, by simpa using hmS⟩
      case round =>
        obtain ⟨j, hj, rfl, rfl, hkp, hmr⟩ := hrel
        have hkR := hkS.keep hkp
        have p0 := hkp.cell q0
        have p1 := hkp.cell q1
        have p2 := hkp.cell q2
        have p3 := hkp.cell q3
        have p4 := hkp.cell q4
        have p5 := hkp.cell q5
        have p6 := hkp.cell q6
        have hkz := hkp.size
        have hzR : w.heap.size < wr.heap.size := by omega
        have hbR : b0 < wr.heap.size := by omega
        by_cases hlt : j < nk
        · have hst := fewK_succ F m nk r ⟨d, la, u0, u1, u2, u3, u4⟩ j
          obtain ⟨f, hf⟩ : ∃ f, fewK F m nk r ⟨d, la, u0, u1, u2, u3, u4⟩ j = f := ⟨_, rfl⟩
          have hfb := fewK_b F m nk r ⟨d, la, u0, u1, u2, u3, u4⟩ j
          rw [hf] at hst hfb ⊢
          unfold fewStep at hst
          cases hB : mayB (F j) m ⟨d, la, u0, u1, u2, u3, u4⟩ j
          · rw [hB] at hst
            have hst2 : Hid (fewK F m nk r ⟨d, la, u0, u1, u2, u3, u4⟩ (j + 1) = f) := Lib.hid (by simpa using hst)
            have hres : mayRes (F j) m ⟨d, la, u0, u1, u2, u3, u4⟩ j = .tuple #[.agg #[.int .i64 d, .int .i64 la, .int .i64 u0, .int .i64 u1, .int .i64 u2, .int .i64 u3, .int .i64 u4], .int .i64 0, .bool false] := by
              unfold mayRes; rw [hB]; rfl
            clear hst hf hB
            go_wp2_with (go_at_call 77; refine (may_any b0 al lost cl m ⟨d, la, u0, u1, u2, u3, u4⟩ j (by omega) _ (by omega) hkR.c4 hkR.c5 hkR.hl ll hfine).mono ?_; rw [hFk, hres]; rintro e w1 ⟨rfl, hb1⟩; have hb1z := hb1.size)
            have hB1 : Below wr.heap.size wr (w1.alloc (.cells #[.int .i64 d, .int .i64 la, .int .i64 u0, .int .i64 u1, .int .i64 u2, .int .i64 u3, .int .i64 u4] 121)) := hb1.alloc hb1.size _
            go_roundw
            case rel => exact ⟨j + 1, by omega, by go_num, by rw [hst2.out], hkp.below hB1, (hmr.below hB1).mono (Nat.add_le_add_left (Nat.mul_le_mul_right _ (Nat.le_succ j)) n)⟩
            case measure => simp [intOf]; omega
          · rw [hB] at hst
            have hok := hs.bump (by simp only; omega) j
            have hdy := bump_day ⟨d, la, u0, u1, u2, u3, u4⟩ j
            have hgb := fewR_b F m nk r (Spot.bump ⟨d, la, u0, u1, u2, u3, u4⟩ j)
            have hcb := mayC_b ⟨d, la, u0, u1, u2, u3, u4⟩ j
            have hres : mayRes (F j) m ⟨d, la, u0, u1, u2, u3, u4⟩ j = .tuple #[(Spot.bump ⟨d, la, u0, u1, u2, u3, u4⟩ j).val, .int .i64 (mayC ⟨d, la, u0, u1, u2, u3, u4⟩ j), .bool true] := by
              unfold mayRes; rw [hB]; rfl
            obtain ⟨cc, hcc⟩ : ∃ cc, mayC ⟨d, la, u0, u1, u2, u3, u4⟩ j = cc := ⟨_, rfl⟩
            obtain ⟨s', hs'⟩ : ∃ s', Spot.bump ⟨d, la, u0, u1, u2, u3, u4⟩ j = s' := ⟨_, rfl⟩
            obtain ⟨gg, hgg⟩ : ∃ gg, fewR F m nk r s' = gg := ⟨_, rfl⟩
            rw [hs'] at hok hdy hgb hres hst
            rw [hcc] at hcb hres hst
            rw [hgg] at hgb hst
            have hst2 : Hid (fewK F m nk r ⟨d, la, u0, u1, u2, u3, u4⟩ (j + 1) = min f (cc + gg)) := Lib.hid (by simpa using hst)
            have hgg2 := Lib.hid hgg
            obtain ⟨d', la', v0, v1, v2, v3, v4⟩ := s'
            simp only at hdy
            subst hdy
            simp only [Spot.val] at hres
            have x0 : IntKind.i64.wrap (cc + gg) = cc + gg := IntWalk.i64_in _ (by omega)
            have hcost : n + j * cost r + cost r < maxLen := by
              have h5 : (j + 1) * cost r ≤ 5 * cost r := Nat.mul_le_mul_right _ (by omega)
              rw [Nat.succ_mul] at h5
              simp only [cost] at hn
              omega
            have hih : ∀ W, Below wr.heap.size wr W → Calls Try.prog 75 #[Value.pointer (some ⟨b0, 0, none⟩), .agg #[.int .i64 (d + 1), .int .i64 la', .int .i64 v0, .int .i64 v1, .int .i64 v2, .int .i64 v3, .int .i64 v4]] W
                fun e w' => e = .returned (.int .i64 gg) ∧ Keep bm W w' ∧ MemoAt w' bm (n + j * cost r + cost r) G := fun W hW => by
              have h9 := ih ⟨d + 1, la', v0, v1, v2, v3, v4⟩ (n + j * cost r) W (by simp only; omega) hok (hkR.below hW) (hmr.below hW) hcost
              rw [hgg] at h9
              exact h9
            clear hst hf hB hs' hcc hgg ih
            go_wp2_with (first
              | (go_at_call 77; refine (may_any b0 al lost cl m ⟨d, la, u0, u1, u2, u3, u4⟩ j (by omega) _ (by omega) hkR.c4 hkR.c5 hkR.hl ll hfine).mono ?_; rw [hFk, hres]; rintro e w1 ⟨rfl, hb1⟩; have hb1z := hb1.size)
              | (go_at_call 75; refine (hih _ (hb1.alloc hb1.size _)).mono ?_; rintro e w3 ⟨rfl, hk3, hm3⟩)
              | (go_at_call 93; refine (minimum_two _ f (cc + gg) 2 _ (ints_two _ _ _ _)).mono ?_; rintro e w4 ⟨rfl, hb4⟩))
            have hB1 : Below wr.heap.size wr (w1.alloc (.cells #[.int .i64 (d + 1), .int .i64 la', .int .i64 v0, .int .i64 v1, .int .i64 v2, .int .i64 v3, .int .i64 v4] 121)) := hb1.alloc hb1.size _
            have hB4 : Below w3.heap.size w3 w4 := ((Below.refl w3.heap.size w3).alloc (Nat.le_refl _) _).trans (hb4.mono (by simp))
            go_roundw
            case rel => exact ⟨j + 1, by omega, by go_num, by rw [hst2.out], ((hkp.below hB1).trans hk3).below hB4, (hm3.below hB4).mono (by rw [Nat.succ_mul]; omega)⟩
            case measure => simp [intOf]; omega
        · obtain rfl : nk = j := by omega
          have h6 := hkR.c6
          have hfb := fewK_b F m nk r ⟨d, la, u0, u1, u2, u3, u4⟩ nk
          have hfe : fewK F m nk r ⟨d, la, u0, u1, u2, u3, u4⟩ nk = G ⟨d, la, u0, u1, u2, u3, u4⟩ := by rw [hGs]; rfl
          rw [hfe] at hfb ⊢
          obtain ⟨gg, hgg⟩ : ∃ gg, G ⟨d, la, u0, u1, u2, u3, u4⟩ = gg := ⟨_, rfl⟩
          rw [hgg] at hfb hGs ⊢
          clear hfe
          go_wp2
          (refine wp_region_ext 6 (by kernel_rfl) (by kernel_rfl) ?_; simp only [List.take_succ_cons, List.take_zero, List.drop_succ_cons, List.drop_zero]; (repeat (go_big_quiet_step ((fail)))); refine wpQuiet_nil ?_; rintro wM ⟨⟨_, hex⟩, rfl⟩; (try dsimp only); obtain ⟨hc1, hf1, hz1⟩ := bcell hex; (try simp at hz1); (try (have hy0 : w.heap.size < wM.heap.size := by omega)); (try (have hy1 : w.heap.size + 1 < wM.heap.size := by omega)); (try (have hy2 : w.heap.size + 2 < wM.heap.size := by omega)))
          clear hc1 hf1
          refine wpList_memo_put ⟨d, la, u0, u1, u2, u3, u4⟩ hfine rfl _ _ _ rfl rfl rfl gg rfl hgg.symm (i64_wf_big gg (by omega) (by omega)) (hmr.below hex) ?_ ?_
          · have h5 : nk * cost r ≤ 5 * cost r := Nat.mul_le_mul_right _ hnk
            simp only [cost] at hn
            omega
          intro wN hmN hkN
          go_wp2
          go_ret
          have h5 : nk * cost r ≤ 5 * cost r := Nat.mul_le_mul_right _ hnk
          refine ⟨?_, (((Keep.of_below hm.isMap hwS).trans hkp).below hex).trans hkN, hmN.mono (by simp only [cost]; omega)⟩
          subst hF
          have e9 : Ending.returned (.int .i64 gg) = Ending.returned (.int .i64 (fewR (fun k => hadN lost k) m nk (r + 1) ⟨d, la, u0, u1, u2, u3, u4⟩)) := by rw [← hGs]
          first
            | rfl
            | exact e9
    · have hc := hcG rfl
      clear hcG
      go_wp2
      (refine wp_region_ext 11 (by kernel_rfl) (by kernel_rfl) ?_; simp only [List.take_succ_cons, List.take_zero, List.drop_succ_cons, List.drop_zero]; (repeat (go_big_quiet_step ((fail)))); refine wpQuiet_nil ?_; rintro _ ⟨ex, rfl⟩; have hex := ex.below; have hexz := ex.size; (try simp at hexz); (try (have hy0 : w.heap.size < ex.to.heap.size := by omega)); (try (have hy1 : w.heap.size + 1 < ex.to.heap.size := by omega)); (try (have hy2 : w.heap.size + 2 < ex.to.heap.size := by omega)))
      go_wp2
      go_ret
      have hwe := hwA.trans (hex.mono hwA.size)
      refine ⟨?_, Keep.of_below hm.isMap hwe, (hm.below hwe).mono (by omega)⟩
      rw [← hGs, ← hc]
      rfl

end Go.Proofs.Ytmplgcefhpobgaa

namespace Go.Proofs.Ytmplgcefhpobgaa
set_option linter.unusedVariables false
set_option linter.unusedSimpArgs false
set_option linter.unnecessarySimpa false
open Go.RowKit Go.Flow

theorem OwnL.keep {E : TypeId} {size base bm : Nat} {w w' : World} {a : Option Addr} {c n : Nat} {xs : List Value} (h : OwnL E size base w a c n xs) (k : Keep bm w w') : OwnL E size base w' a c n xs := by
  refine ⟨h.1, ?_⟩
  rcases h.2 with hn | ⟨g, cap, cur, hv, hbg, hg, rest⟩
  · exact .inl hn
  · refine .inr ⟨g, cap, cur, hv, hbg, ?_, rest⟩
    rw [k.grown.block g (Array.getElem?_eq_some_iff.1 hg).1 (fun e => ?_)]
    · exact hg
    · obtain ⟨es, cl, hm⟩ := k.old
      rw [← Option.some.inj e, hg] at hm
      cases hm

section
variable {P : Program} {t E : TypeId} {z : Value} {size bytes : Nat} {w : World} {ops : Array Oper} {rest : List Oper} {o : Oper} {a : Act} {Q : Exit → Act → World → Prop}

/-- 'append(out, x)': nothing turns but the list's own row. -/
theorem wpList_app_lit_g {W : World} {cs : Array Value} {E2 : TypeId} (el : Elem P t E z size bytes) (hgd : o.guard = none) (s x : Operand) (ho : o.op = .call { callee := .builtin .append, args := #[s, x], argTypes := #[t, t] })
    (base : Nat) (a0 : Option Addr) (n c0 : Nat) (xs : List Value) (hs : a.eval s = .slice a0 n c0) (hown : OwnL E size base W a0 c0 n xs)
    (m c : Nat) (hx : a.eval x = .slice (some ⟨W.heap.size, 0, none⟩) m c) (hl : cs.size = m * size) (h1 : ∀ u ∈ cs.toList, u.oneCell' = true)
    (h63 : n + m ≤ maxLen) (hbytes : (n + m) * bytes ≤ 140737488355328) (hbase : base ≤ W.heap.size)
    (h : ∀ a' c' w', OwnL E size base w' a' c' (n + m) (xs ++ cs.toList) → (W.alloc (.cells cs E2)).grownBy w' (Value.slice a0 n c0).ownBlock → wpList P ops Q rest (a.put o.dst (.slice a' (n + m) c')) w') :
    wpList P ops Q (o :: rest) a (W.alloc (.cells cs E2)) := by
  obtain ⟨i, hi, hz0, hz1, hz2⟩ := el.info
  refine wpList_append_own _ hgd s x t ho base E i z size bytes el.slice hi hz0 hz1 hz2 el.cells el.pos (.slice a0 n c0) n xs hs (hown.alloc _) ⟨W.heap.size, 0, none⟩ m c cs.toList hx (by simpa using hl) ?_ h1 h63 hbytes (by simp; omega) ?_
  · intro j u hu
    rw [addr_add, World.cell?_alloc_at _ _ _ _ rfl, Nat.zero_add]
    simpa using hu
  · intro v' w' h2 h3 h4
    have hv : ∃ a' c', v' = .slice a' (n + m) c' := by
      rcases h2.2 with ⟨rfl, hnm⟩ | ⟨g, cap, cur, rfl, _⟩
      · exact ⟨none, 0, by rw [hnm]⟩
      · exact ⟨_, _, rfl⟩
    obtain ⟨a', c', rfl⟩ := hv
    exact h a' c' w' h2 h3
end

/-- A cell that lies in no row of the list survives the append. -/
theorem grown_cell {E : TypeId} {size base : Nat} {W w' : World} {a0 : Option Addr} {c0 n : Nat} {xs : List Value} {o : Obj} (hown : OwnL E size base W a0 c0 n xs) (hg : (W.alloc o).grownBy w' (Value.slice a0 n c0).ownBlock) {p : Addr} {v : Value}
    (hne : ∀ g, a0 = some ⟨g, 0, none⟩ → p.block ≠ g) (hc : W.cell? p = some v) : w'.cell? p = some v := by
  refine hg.cell (below_cell ((Below.refl _ W).alloc (Nat.le_refl _) o) hc) ?_
  rcases hown.form with ⟨rfl, _⟩ | ⟨g, rfl, _⟩
  · simp [Value.ownBlock]
  · simp [Value.ownBlock]
    exact hne g rfl

theorem OwnL.setCell {E : TypeId} {size base : Nat} {w : World} {a : Option Addr} {c n : Nat} {xs : List Value} (h : OwnL E size base w a c n xs) {p : Addr} (hp : p.block < base) (u : Value) : OwnL E size base (w.setCell p u) a c n xs := by
  refine ⟨h.1, ?_⟩
  rcases h.2 with hn | ⟨g, cap, cur, hv, hbg, hg, rest⟩
  · exact .inl hn
  · exact .inr ⟨g, cap, cur, hv, hbg, by rw [Below.heap_setCell _ _ _ _ (by omega)]; exact hg, rest⟩

/-- What the append and the store into the variable leave as it was. -/
theorem turned_below {E : TypeId} {size base B0 : Nat} {W w' : World} {a0 : Option Addr} {c0 n : Nat} {xs : List Value} {o : Obj} (hown : OwnL E size base W a0 c0 n xs) (hg : (W.alloc o).grownBy w' (Value.slice a0 n c0).ownBlock) (hB : B0 ≤ base) (hW : base ≤ W.heap.size)
    {p : Addr} (hp : B0 ≤ p.block) (u : Value) : Below B0 W (w'.setCell p u) := by
  refine Below.setCell ?_ hp u
  have h1 : Below base (W.alloc o) w' := below_of_grown (hown.alloc o) (by simp; omega) hg
  exact ((Below.refl B0 W).alloc (by omega) o).trans (h1.mono hB)

theorem MemoAt.turned {E : TypeId} {size base bm n : Nat} {G : Spot → Int} {W w' : World} {a0 : Option Addr} {c0 k : Nat} {xs : List Value} {o : Obj} (h : MemoAt W bm n G) (hown : OwnL E size base W a0 c0 k xs) (hg : (W.alloc o).grownBy w' (Value.slice a0 k c0).ownBlock) (hb : bm < base)
    {p : Addr} (hp : bm ≠ p.block) (u : Value) : MemoAt (w'.setCell p u) bm n G := by
  obtain ⟨D, ho, hG⟩ := h
  refine ⟨D, World.ownsMap.setCell (World.ownsMap.kept (ho.alloc o) hg ?_) hp u, hG⟩
  rcases hown.form with ⟨rfl, _⟩ | ⟨g, rfl, hg2, _⟩
  · simp [Value.ownBlock]
  · simp [Value.ownBlock]
    omega

/-- A cell below the list's rows, in another block than the variable. -/
theorem turned_cell {E : TypeId} {size base : Nat} {W w' : World} {a0 : Option Addr} {c0 n : Nat} {xs : List Value} {o : Obj} (hown : OwnL E size base W a0 c0 n xs) (hg : (W.alloc o).grownBy w' (Value.slice a0 n c0).ownBlock) {q : Addr} {v : Value} (hq : q.block < base) (hc : W.cell? q = some v)
    {p : Addr} (hp : q.block ≠ p.block) (u : Value) : (w'.setCell p u).cell? q = some v := by
  rw [World.cell?_setCell_other _ _ _ _ (fun e => hp (by rw [e]))]
  refine grown_cell hown hg (fun g e => ?_) hc
  rcases hown.form with ⟨h1, _⟩ | ⟨g', h1, hg2, _⟩
  · rw [h1] at e; cases e
  · rw [h1] at e
    simp at e
    omega

def planPick (F : Nat → Int) (m : Int) (nk r : Nat) (s : Spot) (left : Int) (k : Nat) : Bool := mayB (F k) m s k && (mayC s k + fewR F m nk r (s.bump k) == left)
def planR (F : Nat → Int) (m : Int) (nk : Nat) : Nat → Spot → Int → List Int
  | 0, _, _ => []
  | r + 1, s, left => match (List.range nk).find? (planPick F m nk r s left) with
    | none => []
    | some k => (k : Int) :: planR F m nk r (s.bump k) (left - mayC s k)

theorem Keep.toBelow {bm B0 : Nat} {a b : World} (h : Keep bm a b) (hb : B0 ≤ bm) (hs : B0 ≤ a.heap.size) : Below B0 a b :=
  ⟨h.grown.os, h.grown.tape, h.grown.output, h.grown.size, fun k hk => h.grown.block k (by omega) (fun e => by have := Option.some.inj e; omega)⟩
theorem find_first {p : Nat → Bool} {n j : Nat} (hj : j < n) (hno : ∀ k, k < j → p k = false) (hp : p j = true) : (List.range n).find? p = some j := by
  rw [List.find?_range_eq_some]
  exact ⟨hp, List.mem_range.2 hj, fun k hk => by simp [hno k hk]⟩
theorem find_none {p : Nat → Bool} {n : Nat} (hno : ∀ k, k < n → p k = false) : (List.range n).find? p = none := by
  rw [List.find?_eq_none]
  intro x hx
  simp [hno x (List.mem_range.1 hx)]

end Go.Proofs.Ytmplgcefhpobgaa
