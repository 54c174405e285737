/- Noted: with bits · append onto a literal without elements; rows known cell by cell; lists of legs and of routes as flat cells · plain law of CopiesLeft: what Noted gives is booked · CopiesLeft: the walk -/
import Derived.Test.YtfclemnkcpadpaaRt
import Derived.Test.YtfclemnkcpadpaaCep
import Derived.Test.YtfclemnkcpadpaaRj
namespace Go.Proofs.Ytfclemnkcpadpaa
set_option linter.unusedVariables false
set_option linter.unusedSimpArgs false
set_option linter.unnecessarySimpa false
open Go.RowKit Go.Flow

def noteB1 (J : List Ent) (ws : List Int) (bits k : Nat) : Ent := if bits.testBit k then ⟨(note1 J ws k).num, min 100 ((note1 J ws k).at_ + ((wordN ws (k + 9) % 3 : Nat) : Int)), decide (wordN ws (k + 9) / 4 % 2 = 0)⟩ else note1 J ws k
def noteB (J : List Ent) (ws : List Int) (bits n : Nat) : List Ent := (List.range n).map (noteB1 J ws bits)
theorem noteB_succ (J : List Ent) (ws : List Int) (bits n : Nat) : noteB J ws bits (n + 1) = noteB J ws bits n ++ [noteB1 J ws bits n] := by simp [noteB, List.range_succ]
theorem noteB_len (J : List Ent) (ws : List Int) (bits n : Nat) : (noteB J ws bits n).length = n := by simp [noteB]

set_option maxRecDepth 100000 in
set_option maxHeartbeats 8000000 in
theorem notedB_any (a : Option Addr) (c : Nat) (ar : Option Addr) (cr : Nat) (p : Post) (at_ : Option Addr) (t : List (List (List Int))) (N ct : Nat) (aw : Option Addr) (ws : List Int) (cw : Nat) (many bits : Nat) (w : World) (J : List Ent) (hJ : Hid (playF p t = J)) (hN : Hid (t.length = N)) (hn : Hid (J.length = N)) (hpos : 0 < N) (hs : IntsAt w a p.sends) (hr : RoutesAt w ar p.routes) (ht : TruthAt w at_ t) (ok : Hid (PlayOk p t)) (hw : U16At w aw ws) (hu : Hid (U16s ws)) (lw : ws.length ≤ 9223372036854775807) (hm : many ≤ 255) (hbt : bits ≤ 255) (hNb : N ≤ 1000) (hJb : ∀ k (h : k < J.length), 0 ≤ J[k].at_ ∧ J[k].at_ ≤ 60) :
    Calls Try.prog 49 #[.agg #[.slice a p.sends.length c, .slice ar p.routes.length cr, .int .i64 p.pat], .slice at_ N ct, .slice aw ws.length cw, .int .u8 (many : Int), .int .u8 (bits : Int)] w fun e w' => (∃ ao co, e = .returned (.slice ao (many % 6) co) ∧ EntsAt w' ao (noteB J ws bits (many % 6)) ∧ (ao = none → co = 0)) ∧ Below w.heap.size w w' := by
  have plk := fun X (b : Below w.heap.size w X) => rplay_eq a c ar cr p X at_ t ct J N hJ hn (hs.below b) (hr.below b) (ht.below b) ok
  rw [hN.out] at plk
  have hmI : Int.tmod (many : Int) 6 = ((many % 6 : Nat) : Int) := rfl
  obtain ⟨M, hM⟩ : ∃ m, many % 6 = m := ⟨_, rfl⟩
  have hM6 : M < 6 := by omega
  rw [hM] at hmI ⊢
  have hwr : IntKind.i64.wrap (many : Int) = (many : Int) := IntWalk.i64_in _ (by omega)
  obtain ⟨W1, hW1⟩ : ∃ z : World, z = w.alloc (.cells #[.slice a p.sends.length c, .slice ar p.routes.length cr, .int .i64 p.pat] 25) := ⟨_, rfl⟩
  have t1 : Below w.heap.size w W1 := by rw [hW1]; exact (Below.refl _ _).alloc (Nat.le_refl _) _
  have C1 : Cells W1 w.heap.size #[.slice a p.sends.length c, .slice ar p.routes.length cr, .int .i64 p.pat] 25 := by rw [hW1]; exact Cells.new _ _ _
  have q0 := C1.cell 0
  have q1 := C1.cell 1
  have q2 := C1.cell 2
  have lq := C1.lt
  simp at q0 q1 q2
  have z1 := t1.size
  go_enter Try.func49, Try.ntmps49
  go_wp2_with fail
  rw [← hW1]
  clear hW1
  go_at_call 27
  refine (plk W1 t1).mono ?_
  rintro e W2 ⟨⟨aJ, cJ, rfl, hE⟩, b2⟩
  have t2 := t1.trans (b2.mono z1)
  have z2 := t2.size
  clear plk q0 q1 q2 C1 lq b2 t1 z1
  go_wp2
  go_loopw [12, 13] (fun v u wr => ∃ (k : Nat) (a' : Option Addr) (c' : Nat), k ≤ M ∧ u = .int .i64 k ∧ v = .slice a' k c' ∧ OwnL 93 3 W2.heap.size wr a' c' k (flatE (noteB J ws bits k)) ∧ Below W2.heap.size W2 wr) (fun _ u _ => M - (intOf u).toNat)
  case atStart => exact ⟨0, none, 0, Nat.zero_le _, rfl, rfl, OwnL.nil _ _ _ _, Below.refl _ _⟩
  case round =>
    obtain ⟨k, a', c', hk, rfl, rfl, hO, hb⟩ := hrel
    have zb := hb.size
    have tb := t2.trans (hb.mono z2)
    by_cases hkl : k < M
    · have hkI : (k : Int) < (M : Int) := by omega
      have hc1 : ((k + 5 : Nat) : Int) = (k : Int) + 5 := by omega
      have hwd := word_any aw ws cw (k + 5) wr (hw.below tb) hu.out lw (by omega)
      rw [hc1] at hwd
      have hq := wordN_le hu.out (k + 5)
      have hx : note1 J ws k = J.getD (wordN ws (k + 5) % J.length) ⟨0, 0, false⟩ := rfl
      rw [hn.out] at hx
      obtain ⟨q, hqe⟩ : ∃ q, wordN ws (k + 5) = q := ⟨_, rfl⟩
      rw [hqe] at hwd hq hx
      have hiN : q % N < N := Nat.mod_lt _ hpos
      have htm : Int.tmod (q : Int) (N : Int) = ((q % N : Nat) : Int) := rfl
      obtain ⟨i, hi⟩ : ∃ i, q % N = i := ⟨_, rfl⟩
      rw [hi] at hx hiN htm
      have hiI : (i : Int) < (N : Int) := by omega
      obtain ⟨bE, offE, rfl, hbE, e0, e1, e2⟩ := (hE.below hb) i (by rw [hn.out]; exact hiN)
      have hx2 : note1 J ws k = J[i]'(by rw [hn.out]; exact hiN) := by rw [hx, List.getD_eq_getElem?_getD, List.getElem?_eq_getElem (by rw [hn.out]; exact hiN)]; rfl
      obtain ⟨⟨x0, x1, x2⟩, hxe⟩ : ∃ x, J[i]'(by rw [hn.out]; exact hiN) = x := ⟨_, rfl⟩
      have hbd := hJb i (by rw [hn.out]; exact hiN)
      rw [hxe] at e0 e1 e2 hx2 hbd
      simp only at e0 e1 e2 hbd
      have HX := Lib.hid hx2
      have hNz : ((N : Int) == 0) = false := by rw [beq_eq_false_iff_ne]; omega
      clear hxe hx2 hx hqe hi hc1
      go_wp2_with fail
      go_at_call 84
      refine hwd.mono ?_
      rintro e _ ⟨rfl, rfl⟩
      clear hwd
      cases hbit : bits.testBit k
      · have hmb := bit_off hbit
        replace HX : Hid (noteB1 J ws bits k = ⟨x0, x1, x2⟩) := Lib.hid (by unfold noteB1; rw [HX.out, hbit]; rfl)
        clear hbit
        go_wp2_with (at_builtin; refine wpList_app_lit el_rentries rfl _ _ rfl W2.heap.size a' k c' _ rfl (hO.alloc _) 1 1 (by first | rfl | (show Value.slice _ _ _ = _; simp; done) | (simp; done)) rfl (fun u hu => by simp at hu; rcases hu with rfl | rfl | rfl <;> rfl) (by unfold maxLen; omega) (by omega) (by simp; omega) ?_; intro a6 c6 w7 hown7 hb7)
        go_roundw
        case rel => exact ⟨k + 1, a6, c6, by omega, by go_num, rfl, by rw [noteB_succ, flatE_snoc, HX.out]; exact hown7, (hb.trans (((Below.refl _ _).alloc (Nat.le_refl _) _).mono zb)).trans hb7⟩
        case measure => simp [intOf]; omega
      · have hmb := bit_on hbit
        have hc2 : ((k + 9 : Nat) : Int) = (k : Int) + 9 := by omega
        have hwd2 := fun X (b : Below wr.heap.size wr X) => word_any aw ws cw (k + 9) X ((hw.below tb).below b) hu.out lw (by omega)
        rw [hc2] at hwd2
        have hq2 := wordN_le hu.out (k + 9)
        have hv : noteB1 J ws bits k = ⟨x0, min 100 (x1 + ((wordN ws (k + 9) % 3 : Nat) : Int)), decide (wordN ws (k + 9) / 4 % 2 = 0)⟩ := by unfold noteB1; rw [HX.out, hbit]; rfl
        obtain ⟨v, hve⟩ : ∃ q, wordN ws (k + 9) = q := ⟨_, rfl⟩
        rw [hve] at hwd2 hq2 hv
        obtain ⟨r, hr3⟩ : ∃ r, v % 3 = r := ⟨_, rfl⟩
        have hr2 : r < 3 := by omega
        have ht3 : Int.tmod (v : Int) 3 = (r : Int) := by rw [← hr3]; rfl
        obtain ⟨u4, hu4⟩ : ∃ u, v / 4 = u := ⟨_, rfl⟩
        have ht4 : Int.tdiv (v : Int) 4 = (u4 : Int) := by rw [← hu4]; rfl
        obtain ⟨g2, hg2⟩ : ∃ g, u4 % 2 = g := ⟨_, rfl⟩
        have ht2 : Int.tmod (u4 : Int) 2 = (g2 : Int) := by rw [← hg2]; rfl
        obtain ⟨sk, hsk⟩ : ∃ b, decide (g2 = 0) = b := ⟨_, rfl⟩
        have hsk2 : ((g2 : Int) == 0) = sk := by rw [← hsk, Bool.eq_iff_iff]; simp
        have hwv : IntKind.i64.wrap (x1 + (r : Int)) = x1 + (r : Int) := IntWalk.i64_in _ (by omega)
        have hwu : IntKind.i64.wrap (u4 : Int) = (u4 : Int) := IntWalk.i64_in _ (by omega)
        rw [hr3, hu4, hg2, hsk, show min 100 (x1 + (r : Int)) = x1 + (r : Int) by omega] at hv
        have hl1 : x1 + (r : Int) < 100 := by omega
        have hl2 : ¬ (100 < x1 + (r : Int)) := by omega
        have HV := Lib.hid hv
        clear hv hr3 hu4 hg2 hsk
        clear hbit hc2 hve HX
        go_wp2_with fail
        go_at_call 84
        refine (hwd2 _ (by (repeat (first | exact Below.refl _ _ | refine Below.alloc ?_ (by first | omega | (simp; done) | (simp; omega)) _ | refine Below.drew ?_ | refine Below.setCell ?_ (by first | omega | (simp; done) | (simp; omega)) _ | refine Below.trans ?_ (Below.mono (by assumption) (by first | omega | (simp; done) | (simp; omega))))))).mono ?_
        rintro e _ ⟨rfl, rfl⟩
        go_wp2_with (at_builtin; refine wpList_app_lit el_rentries rfl _ _ rfl W2.heap.size a' k c' _ rfl (hO.alloc _) 1 1 (by first | rfl | (show Value.slice _ _ _ = _; simp; done) | (simp; done)) rfl (fun u hu => by simp at hu; rcases hu with rfl | rfl | rfl <;> rfl) (by unfold maxLen; omega) (by omega) (by simp; omega) ?_; intro a6 c6 w7 hown7 hb7)
        go_roundw
        case rel => exact ⟨k + 1, a6, c6, by omega, by go_num, rfl, by rw [noteB_succ, flatE_snoc, HV.out]; exact hown7, (hb.trans (((Below.refl _ _).alloc (Nat.le_refl _) _).mono zb)).trans hb7⟩
        case measure => simp [intOf]; omega
    · obtain rfl : k = M := by omega
      go_wp2
      go_ret
      exact ⟨⟨a', c', rfl, hO.ents, fun h => by subst h; exact hO.isnil.2⟩, tb⟩
end Go.Proofs.Ytfclemnkcpadpaa

namespace Go.Proofs.Ytfclemnkcpadpaa
set_option linter.unusedVariables false
set_option linter.unusedSimpArgs false
set_option linter.unnecessarySimpa false
open Go.RowKit Go.Flow

section
variable {P : Program} {t E : TypeId} {z : Value} {size bytes : Nat}
theorem run_app0 (el : Elem P t E z size bytes) (ty : TypeId) (w : World) (base g : Nat) (hg : Cells w g #[] E) (hbg : base ≤ g) (ao : Option Addr) (m c : Nat) (news : List Value) (hnone : ao = none → m = 0 ∧ c = 0)
    (hl : news.length = m * size) (hsrc : SrcAt w ao news) (h63 : m ≤ maxLen) (hbytes : m * bytes ≤ 140737488355328) :
    ∃ v w', (Builtin.append_ #[t, t] ty #[.slice (some ⟨g, 0, none⟩) 0 0, .slice ao m c]).run P w = .ok v w' ∧ OwnV E size base m news v w' ∧ Below w.heap.size w w' := by
  obtain ⟨i, hi, hz0, hz1, hz2⟩ := el.info
  have hsmall : m ≤ 9223372036854775807 := by simp only [maxLen] at h63; omega
  by_cases hm : m = 0
  · subst hm
    have hn : news = [] := List.eq_nil_of_length_eq_zero (by simpa using hl)
    subst hn
    refine ⟨.slice (some ⟨g, 0, none⟩) 0 0, w, ?_, ⟨some ⟨g, 0, none⟩, 0, rfl, ⟨by simp, .inr ⟨g, 0, _, rfl, hbg, hg, Nat.le_refl _, Nat.zero_le _, by simp, by simp⟩⟩⟩, Below.refl _ _⟩
    have hs : ∀ b : Addr, Sem.run P (storeCells b []) w = .ok () w := fun b => rfl
    cases ao <;> simp [hs, Builtin.append_, run_underlying el.slice, sizeOf, typeInfo, hi, Builtin.lenOf, Builtin.firstCells, loadCells, loadCellsFrom]
  · obtain ⟨a, rfl⟩ : ∃ a, ao = some a := by
      cases ao with
      | none => exact absurd (hnone rfl).1 hm
      | some a => exact ⟨a, rfl⟩
    have hnews : ∀ j u, news[j]? = some u → w.cell? (a.add j) = some u := fun j u hu => by
      obtain ⟨b, off, ha, hc⟩ := hsrc j u hu
      obtain rfl := Option.some.inj ha
      rw [addr_add]; exact hc
    have hfit : Builtin.nextslicecap (0 + m) 0 * i.bytes ≤ 281474976710656 := growslice_fits (by omega) (by rw [hz2]; simpa using hbytes)
    have hr := run_append_grow (P := P) (w := w) t ty E i z el.slice hi hz0 ⟨g, 0, none⟩ 0 0 [] (by simp) (by simp) a m c news (by rw [hz1]; exact hl) hnews (by omega) (by omega) hfit
    refine ⟨_, _, hr, ⟨some ⟨w.heap.size, 0, none⟩, grownCap w (0 + m) 0 E, by rw [Nat.zero_add], hl, .inr ⟨w.heap.size, _, _, rfl, by have := hg.lt; omega, heap_alloc_new w.drew _, by have := grownCap_ge w (0 + m) 0 E; omega, grownCap_le_maxLen w (0 + m) 0 E (by omega), ?_, ?_⟩⟩, ((Below.refl _ w).drew).alloc (Nat.le_refl _) _⟩
    · simp only [Array.size_append, List.size_toArray, size_zeroCells, el.cells, hl, List.length_nil, Nat.zero_add, ← Nat.add_mul]
      congr 1
      have := grownCap_ge w m 0 E
      omega
    · simp only [Array.toList_append, List.nil_append]
      rw [← hl]
      exact List.take_left
theorem gives_app0 {o : Oper} {a : Act} (el : Elem P t E z size bytes) (w : World) (base g : Nat) (s x : Operand) (ho : o.op = .call { callee := .builtin .append, args := #[s, x], argTypes := #[t, t] })
    (hs : a.eval s = .slice (some ⟨g, 0, none⟩) 0 0) (hg : Cells w g #[] E) (hbg : base ≤ g) (ao : Option Addr) (m c : Nat) (news : List Value) (hx : a.eval x = .slice ao m c) (hnone : ao = none → m = 0 ∧ c = 0)
    (hl : news.length = m * size) (hsrc : SrcAt w ao news) (h63 : m ≤ maxLen) (hbytes : m * bytes ≤ 140737488355328) :
    o.gives P a w fun v w' => Below w.heap.size w w' ∧ OwnV E size base m news v w' := by
  obtain ⟨v, w', h1, h2, h3⟩ := run_app0 el o.type w base g hg hbg ao m c news hnone hl hsrc h63 hbytes
  unfold Oper.gives
  simp only [execOp, ho, resolve, invoke, builtin, Sem.run_bind, Sem.run_pure, Result.andThen_ok, List.map_toArray, List.map_cons, List.map_nil, hs, hx, h1, Oper.givesUpon]
  exact ⟨h3, h2⟩
end

/-- A block whose first cells are known. -/
def RowAt (w : World) (g : Nat) (E : TypeId) (xs : List Value) : Prop := ∃ cur : Array Value, Cells w g cur E ∧ ∀ (j : Nat) u, xs[j]? = some u → cur[j]? = some u
section
variable {w w' : World} {g : Nat} {E : TypeId} {xs : List Value}
theorem RowAt.lt (h : RowAt w g E xs) : g < w.heap.size := let ⟨_, h1, _⟩ := h; h1.lt
theorem RowAt.cell (h : RowAt w g E xs) {j : Nat} {u : Value} (hu : xs[j]? = some u) : w.cell? ⟨g, j, none⟩ = some u := let ⟨_, h1, h2⟩ := h; (h1.cell j).trans (h2 j u hu)
theorem RowAt.frozen (h : RowAt w g E xs) (j : Nat) : w.frozen? ⟨g, j, none⟩ = false := let ⟨_, h1, _⟩ := h; h1.frozen j
theorem RowAt.below (h : RowAt w g E xs) (hb : Below w.heap.size w w') : RowAt w' g E xs := let ⟨cur, h1, h2⟩ := h; ⟨cur, h1.below hb, h2⟩
theorem RowAt.base (h : RowAt w g E xs) {B : Nat} (hg : g < B) (hb : Below B w w') : RowAt w' g E xs := let ⟨cur, h1, h2⟩ := h; ⟨cur, (hb.block g hg).trans h1, h2⟩
theorem RowAt.other (h : RowAt w g E xs) {g' : Nat} (hne : g ≠ g') (k : Nat) (v : Value) : RowAt (w.setCell ⟨g', k, none⟩ v) g E xs := let ⟨cur, h1, h2⟩ := h; ⟨cur, h1.other hne k v, h2⟩
theorem RowAt.set (h : RowAt w g E xs) (k : Nat) (v : Value) : RowAt (w.setCell ⟨g, k, none⟩ v) g E (xs.set k v) := by
  obtain ⟨cur, h1, h2⟩ := h
  refine ⟨_, h1.set k v, fun j u hu => ?_⟩
  rw [List.getElem?_set] at hu
  rw [Array.getElem?_setIfInBounds]
  by_cases e : k = j
  · subst e
    rw [if_pos rfl] at hu ⊢
    split at hu
    · rename_i hlt
      have := h2 k _ (List.getElem?_eq_getElem hlt)
      rw [if_pos (Array.getElem?_eq_some_iff.1 this).1]
      exact hu
    · cases hu
  · rw [if_neg e] at hu ⊢
    exact h2 j u hu
theorem OwnL.row {size base c n : Nat} (h : OwnL E size base w (some ⟨g, 0, none⟩) c n xs) : base ≤ g ∧ RowAt w g E xs := by
  rcases h.form with ⟨h1, _⟩ | ⟨g', h1, h2, _, _, _, _, hc⟩
  · cases h1
  · cases h1
    refine ⟨h2, ?_⟩
    rcases h.2 with ⟨hn, _⟩ | ⟨g'', cap, cur, hv, hbg, hg, _⟩
    · simp at hn
    · simp only [Value.slice.injEq, Option.some.injEq, Addr.mk.injEq, and_true] at hv
      obtain ⟨rfl, _⟩ := hv
      exact ⟨cur, hg, fun j u hu => by rw [← Cells.cell hg j]; exact hc j u hu⟩
end
/-- The elements' parts, chosen. -/
theorem chosen {α : Type} {n : Nat} {Q : Nat → α → Prop} (z : α) (h : ∀ k, k < n → ∃ x, Q k x) : ∃ ps : List α, ps.length = n ∧ ∀ (k : Nat) x, ps[k]? = some x → Q k x := by
  have h' : ∀ k : Nat, ∃ x, k < n → Q k x := fun k => by
    by_cases hk : k < n
    · obtain ⟨x, hx⟩ := h k hk; exact ⟨x, fun _ => hx⟩
    · exact ⟨z, fun h => absurd h hk⟩
  obtain ⟨f, hf⟩ := Classical.axiomOfChoice h'
  refine ⟨(List.range n).map f, by simp, fun k x hx => ?_⟩
  rw [List.getElem?_map, Option.map_eq_some_iff] at hx
  obtain ⟨y, hy, rfl⟩ := hx
  have hk : k < n := by have := (List.getElem?_eq_some_iff.1 hy).1; simpa using this
  rw [List.getElem?_range hk] at hy
  cases hy
  exact hf k hk
theorem flat_get {α : Type} {size : Nat} {val : α → Option Addr × Nat → List Value} (hv : ∀ x p, (val x p).length = size) {l : List α} {ps : List (Option Addr × Nat)} (hl : ps.length = l.length) {k j : Nat} (hk : k < l.length) (hj : j < size) :
    ((l.zip ps).flatMap fun x => val x.1 x.2)[k * size + j]? = (val l[k] (ps[k]'(by omega)))[j]? := by
  refine flatMap_get size (fun x => val x.1 x.2) (fun x => hv _ _) (l.zip ps) k j (l[k], ps[k]'(by omega)) ?_ hj
  rw [List.getElem?_zip_eq_some]
  exact ⟨by simp, by simp⟩
theorem legV_len (l : Leg) (pp : Option Addr × Nat) : (legV l pp).length = 3 := rfl
theorem routeV_len (r : Route) (pp : Option Addr × Nat) : (routeV r pp).length = 2 := rfl
theorem legV_one {ls : List (Leg × (Option Addr × Nat))} : ∀ u ∈ ls.flatMap (fun x => legV x.1 x.2), u.oneCell' = true := fun u hu => by
  obtain ⟨x, _, hx⟩ := List.mem_flatMap.1 hu
  simp [legV] at hx
  rcases hx with rfl | rfl | rfl <;> rfl
theorem routeV_one {ls : List (Route × (Option Addr × Nat))} : ∀ u ∈ ls.flatMap (fun x => routeV x.1 x.2), u.oneCell' = true := fun u hu => by
  obtain ⟨x, _, hx⟩ := List.mem_flatMap.1 hu
  simp [routeV] at hx
  rcases hx with rfl | rfl <;> rfl
theorem legs_src {w : World} {a : Option Addr} {ls : List Leg} (h : LegsAt w a ls) : ∃ ps : List (Option Addr × Nat), ps.length = ls.length ∧ SrcAt w a ((ls.zip ps).flatMap fun x => legV x.1 x.2) ∧ ∀ (q : Nat) l pp, ls[q]? = some l → ps[q]? = some pp → Recs2At w pp.1 l.asl := by
  obtain ⟨ps, h1, h2⟩ := chosen (Q := fun k pp => ∀ (hk : k < ls.length), ∃ b off, a = some ⟨b, off, none⟩ ∧ w.cell? ⟨b, off + k * 3, none⟩ = some (.int .i64 ls[k].lo) ∧ w.cell? ⟨b, off + k * 3 + 1, none⟩ = some (.int .i64 ls[k].hi) ∧ w.cell? ⟨b, off + k * 3 + 2, none⟩ = some (.slice pp.1 ls[k].asl.length pp.2) ∧ Recs2At w pp.1 ls[k].asl) (none, 0)
    (fun k hk => by obtain ⟨b, off, ar, c, e, _, c0, c1, c2, c3⟩ := h k hk; exact ⟨(ar, c), fun _ => ⟨b, off, e, c0, c1, c2, c3⟩⟩)
  refine ⟨ps, h1, fun j u hu => ?_, fun q l pp hq hp => ?_⟩
  · have hlen := ownL_len (E := 3) (val := legV) (l := ls) (ps := ps) legV_len (by omega)
    have hj : j < ls.length * 3 := by have := (List.getElem?_eq_some_iff.1 hu).1; rw [hlen, h1] at this; exact this
    have hk : j / 3 < ls.length := by omega
    have hg := flat_get (val := legV) legV_len h1 hk (Nat.mod_lt j (by omega : 0 < 3))
    rw [show j / 3 * 3 + j % 3 = j by omega, hu] at hg
    obtain ⟨b, off, e, c0, c1, c2, _⟩ := h2 (j / 3) _ (List.getElem?_eq_getElem (by omega)) hk
    refine ⟨b, off, e, ?_⟩
    have hm : j % 3 = 0 ∨ j % 3 = 1 ∨ j % 3 = 2 := by omega
    rcases hm with hm | hm | hm
    · rw [hm] at hg; rw [show j = j / 3 * 3 by omega, c0]; simpa [legV] using hg.symm
    · rw [hm] at hg; rw [show off + j = off + j / 3 * 3 + 1 by omega, c1]; simpa [legV] using hg.symm
    · rw [hm] at hg; rw [show off + j = off + j / 3 * 3 + 2 by omega, c2]; simpa [legV] using hg.symm
  · obtain ⟨hlt, rfl⟩ := List.getElem?_eq_some_iff.1 hq
    obtain ⟨b, off, e, _, _, _, c3⟩ := h2 q pp hp hlt
    exact c3
theorem routes_src {w : World} {a : Option Addr} {rs : List Route} (h : RoutesAt w a rs) : ∃ ps : List (Option Addr × Nat), ps.length = rs.length ∧ SrcAt w a ((rs.zip ps).flatMap fun x => routeV x.1 x.2) ∧ ∀ (q : Nat) r pp, rs[q]? = some r → ps[q]? = some pp → LegsAt w pp.1 r.legs := by
  obtain ⟨ps, h1, h2⟩ := chosen (Q := fun k pp => ∀ (hk : k < rs.length), ∃ b off, a = some ⟨b, off, none⟩ ∧ w.cell? ⟨b, off + k * 2, none⟩ = some (.slice pp.1 rs[k].legs.length pp.2) ∧ w.cell? ⟨b, off + k * 2 + 1, none⟩ = some (.bool rs[k].lossy) ∧ LegsAt w pp.1 rs[k].legs) (none, 0)
    (fun k hk => by obtain ⟨b, off, ar, c, e, _, c0, c1, c2⟩ := h k hk; exact ⟨(ar, c), fun _ => ⟨b, off, e, c0, c1, c2⟩⟩)
  refine ⟨ps, h1, fun j u hu => ?_, fun q l pp hq hp => ?_⟩
  · have hlen := ownL_len (E := 3) (val := routeV) (l := rs) (ps := ps) routeV_len (by omega)
    have hj : j < rs.length * 2 := by have := (List.getElem?_eq_some_iff.1 hu).1; rw [hlen, h1] at this; exact this
    have hk : j / 2 < rs.length := by omega
    have hg := flat_get (val := routeV) routeV_len h1 hk (Nat.mod_lt j (by omega : 0 < 2))
    rw [show j / 2 * 2 + j % 2 = j by omega, hu] at hg
    obtain ⟨b, off, e, c0, c1, _⟩ := h2 (j / 2) _ (List.getElem?_eq_getElem (by omega)) hk
    refine ⟨b, off, e, ?_⟩
    have hm : j % 2 = 0 ∨ j % 2 = 1 := by omega
    rcases hm with hm | hm
    · rw [hm] at hg; rw [show j = j / 2 * 2 by omega, c0]; simpa [routeV] using hg.symm
    · rw [hm] at hg; rw [show off + j = off + j / 2 * 2 + 1 by omega, c1]; simpa [routeV] using hg.symm
  · obtain ⟨hlt, rfl⟩ := List.getElem?_eq_some_iff.1 hq
    obtain ⟨b, off, e, _, _, c3⟩ := h2 q pp hp hlt
    exact c3
theorem routes_of_row {w : World} {g : Nat} {E : TypeId} {rs : List Route} {ps : List (Option Addr × Nat)} (h : RowAt w g E ((rs.zip ps).flatMap fun x => routeV x.1 x.2)) (hl : ps.length = rs.length) (hs : ∀ (q : Nat) r pp, rs[q]? = some r → ps[q]? = some pp → LegsAt w pp.1 r.legs) : RoutesAt w (some ⟨g, 0, none⟩) rs := fun k hk => by
  have g0 := flat_get (val := routeV) routeV_len hl hk (show 0 < 2 by omega)
  have g1 := flat_get (val := routeV) routeV_len hl hk (show 1 < 2 by omega)
  refine ⟨g, 0, (ps[k]'(by omega)).1, (ps[k]'(by omega)).2, rfl, h.lt, ?_, ?_, hs k _ _ (by simp) (by simp)⟩
  · rw [Nat.zero_add]; exact h.cell (g0.trans rfl)
  · rw [Nat.zero_add]; exact h.cell (g1.trans rfl)
end Go.Proofs.Ytfclemnkcpadpaa

namespace Go.Proofs.Ytfclemnkcpadpaa
set_option linter.unusedVariables false
set_option linter.unusedSimpArgs false
set_option linter.unnecessarySimpa false
open Go.RowKit Go.Flow

section
variable {p : Post} (h0 : postErr p = 0) {t : List (List (List Int))} (hs : shapeErr p t = 0)
include h0 hs
theorem note1_mem (ws : List Int) (k : Nat) : ∃ (i : Nat) (h : i < (playF p t).length), note1 (playF p t) ws k = (playF p t)[i] :=
  note_mem h0 hs ws (k + 1) _ (by rw [noteF_succ]; simp)
theorem noteB_book (ws : List Int) (bits : Nat) {n : Nat} (hn : n ≤ 8) : bookErr p (noteB (playF p t) ws bits n) = 0 := by
  unfold bookErr
  rw [if_neg (by simpa using h0), if_neg (by rw [noteB_len]; omega), if_pos]
  rw [List.all_eq_true]
  intro e he
  obtain ⟨k, _, rfl⟩ := List.mem_map.1 he
  obtain ⟨i, h, hi⟩ := note1_mem h0 hs ws k
  have J := play_ok h0 hs
  have hl := J.len
  have hb := J.bd i h
  have hn := J.num i h
  simp only [entOk, Bool.and_eq_true]
  unfold noteB1
  rw [hi]
  split
  · exact ⟨inR_iff.2 (by simp only; omega), inR_iff.2 (by simp only; omega)⟩
  · exact ⟨inR_iff.2 (by omega), inR_iff.2 (by omega)⟩
end
theorem next_sub {p : Post} {l l' : List Ent} (h : ∀ e ∈ l', e ∈ l) : ∀ (r i : Nat) (f : Int), (nextR p l r i f).isSome = true → (nextR p l' r i f).isSome = true
  | 0, i, f, _ => by simp [nextR]
  | r + 1, i, f, hn => by
    obtain ⟨x, x1, x2, x3, x4⟩ := nextR_iff.1 hn
    refine nextR_iff.2 ⟨x, x1, x2, ?_, next_sub h r (i + 1) _ x4⟩
    unfold fitsB at x3 ⊢
    rw [Bool.not_eq_true', List.any_eq_false] at x3 ⊢
    exact fun e he => x3 e (h e he)
theorem expl_sub {p : Post} {l l' : List Ent} (h : ∀ e ∈ l', e ∈ l) (hx : explB p l = true) : explB p l' = true := next_sub h _ _ _ hx
theorem keep_ext (l : List Ent) (e : Ent) : ∀ (t : List Bool) (i : Nat), i + t.length ≤ l.length → chKeep (l ++ [e]) t i = chKeep l t i
  | [], i, _ => rfl
  | true :: t, i, h => by simp only [List.length_cons] at h; simp only [chKeep]; exact keep_ext l e t (i + 1) (by omega)
  | false :: t, i, h => by
    simp only [List.length_cons] at h
    simp only [chKeep]
    rw [keep_ext l e t (i + 1) (by omega)]
    have hi : i < l.length := by omega
    rw [show (l ++ [e]).getD i ⟨0, 0, false⟩ = l.getD i ⟨0, 0, false⟩ by rw [List.getD_eq_getElem?_getD, List.getD_eq_getElem?_getD, List.getElem?_append_left hi]]
theorem len_of_less {a b : List Int} (h : lessB a b = false) : b.length ≤ a.length := by
  rcases Nat.lt_or_ge a.length b.length with h1 | h1
  · unfold lessB at h
    rw [if_neg (by omega)] at h
    have := of_decide_eq_false h
    omega
  · exact h1
theorem odd_more {p : Post} (h0 : postErr p = 0) (l : List Ent) (e : Ent) : (oddF p l).length ≤ (oddF p (l ++ [e])).length ∧ (oddF p (l ++ [e])).length ≤ (oddF p l).length + 1 := by
  obtain ⟨cs, c1, c2, c3, c4⟩ := oddF_spec (p := p) (l := l) h0
  obtain ⟨ds, d1, d2, d3, d4⟩ := oddF_spec (p := p) (l := l ++ [e]) h0
  simp only [List.length_append, List.length_cons, List.length_nil, Nat.zero_add] at d1 d4
  constructor
  · have hne : ds ≠ [] := fun h => by rw [h] at d1; simp at d1
    obtain ⟨fs, x, rfl⟩ : ∃ fs x, ds = fs ++ [x] := ⟨ds.dropLast, ds.getLast hne, (List.dropLast_concat_getLast hne).symm⟩
    have hf : fs.length = l.length := by simpa using d1
    rw [chKeep_snoc, keep_ext l e fs 0 (by omega)] at d3
    have h1 := len_of_less (c4 fs hf (expl_sub (fun y hy => List.mem_append_left _ hy) d3))
    rw [d2, chOut_snoc, List.length_append]
    omega
  · have h1 := len_of_less (d4 (cs ++ [true]) (by simp [c1]) (by rw [chKeep_snoc, keep_ext l e cs 0 (by omega)]; simpa using c3))
    rw [chOut_snoc] at h1
    rw [c2]
    simpa using h1
/-- The mask of a list of indices. -/
def orF (o : List Int) (b : Nat) : Nat := o.foldl (fun b x => b ||| 2 ^ x.toNat) b
theorem orF_bit : ∀ (cs : List Bool) (i b j : Nat), (orF (chOut cs i) b).testBit j = (b.testBit j || (decide (i ≤ j) && cs.getD (j - i) false))
  | [], i, b, j => by simp [orF, chOut]
  | true :: t, i, b, j => by
    have e : orF (chOut (true :: t) i) b = orF (chOut t (i + 1)) (b ||| 2 ^ i) := rfl
    rw [e, orF_bit t (i + 1), Nat.testBit_or, Nat.testBit_two_pow]
    rcases Nat.lt_trichotomy j i with h | h | h
    · simp [show ¬ (i = j) by omega, show ¬ (i + 1 ≤ j) by omega, show ¬ (i ≤ j) by omega]
    · subst h; simp
    · obtain ⟨d, hd⟩ : ∃ d, j - i = d + 1 := ⟨j - i - 1, by omega⟩
      rw [hd, show j - (i + 1) = d by omega]
      simp [show ¬ (i = j) by omega, show i + 1 ≤ j by omega, show i ≤ j by omega]
  | false :: t, i, b, j => by
    have e : orF (chOut (false :: t) i) b = orF (chOut t (i + 1)) b := rfl
    rw [e, orF_bit t (i + 1)]
    rcases Nat.lt_trichotomy j i with h | h | h
    · simp [show ¬ (i + 1 ≤ j) by omega, show ¬ (i ≤ j) by omega]
    · subst h; simp; omega
    · obtain ⟨d, hd⟩ : ∃ d, j - i = d + 1 := ⟨j - i - 1, by omega⟩
      rw [hd, show j - (i + 1) = d by omega]
      simp [show i + 1 ≤ j by omega, show i ≤ j by omega]
theorem orF_bits (cs : List Bool) : bitsL (orF (chOut cs 0) 0) cs.length = cs := by
  apply List.ext_getElem
  · rw [bitsL_len]
  · intro j h1 h2
    have e : (bitsL (orF (chOut cs 0) 0) cs.length)[j] = (orF (chOut cs 0) 0).testBit j := by simp [bitsL]
    rw [e, orF_bit]
    simp [h2]
theorem out_lt : ∀ (t : List Bool) (i : Nat), ∀ x ∈ chOut t i, x < ((i + t.length : Nat) : Int)
  | [], i, x, h => by cases h
  | true :: t, i, x, h => by
    simp only [chOut, List.mem_cons] at h
    rcases h with rfl | h
    · simp only [List.length_cons]; omega
    · have := out_lt t (i + 1) x h; simp only [List.length_cons]; omega
  | false :: t, i, x, h => by
    have := out_lt t (i + 1) x h; simp only [List.length_cons]; omega
theorem out_rise : ∀ (t : List Bool) (i k : Nat) (h : k + 1 < (chOut t i).length), (chOut t i)[k] < (chOut t i)[k + 1]
  | [], i, k, h => by simp [chOut] at h
  | true :: t, i, 0, h => by
    simp only [chOut, List.getElem_cons_zero, List.getElem_cons_succ]
    have h2 : 0 < (chOut t (i + 1)).length := by simpa [chOut] using h
    have := chOut_ge t (i + 1) _ (List.getElem_mem h2)
    omega
  | true :: t, i, k + 1, h => by
    simp only [chOut, List.getElem_cons_succ]
    exact out_rise t (i + 1) k (by simpa [chOut] using h)
  | false :: t, i, k, h => out_rise t (i + 1) k h
theorem left_keep {p : Post} (h0 : postErr p = 0) (l : List Ent) : explB p (keepB l (orF (oddF p l) 0) l.length) = true := by
  obtain ⟨cs, c1, c2, c3, _⟩ := oddF_spec (p := p) (l := l) h0
  unfold keepB
  rw [c2, ← c1, orF_bits]
  exact c3
theorem left_which {p : Post} (h0 : postErr p = 0) (l : List Ent) (b : Nat) (h : explB p (keepB l b l.length) = true) : lessB (outB b l.length) (oddF p l) = false := by
  obtain ⟨cs, _, _, _, c4⟩ := oddF_spec (p := p) (l := l) h0
  exact c4 (bitsL b l.length) (bitsL_len _ _) h
theorem left_rise {p : Post} (h0 : postErr p = 0) (l : List Ent) {o : List Int} (ho : oddF p l = o) : (∀ x ∈ o, 0 ≤ x ∧ x < (l.length : Int)) ∧ ∀ (k : Nat) (h : k + 1 < o.length), o[k] < o[k + 1] := by
  obtain ⟨cs, c1, c2, _, _⟩ := oddF_spec (p := p) (l := l) h0
  rw [ho] at c2
  subst c2
  refine ⟨fun x hx => ⟨?_, ?_⟩, fun k h => out_rise cs 0 k h⟩
  · have := chOut_ge cs 0 x hx; omega
  · have := out_lt cs 0 x hx; omega
theorem orF_take (o : List Int) {k : Nat} (h : k < o.length) (b : Nat) : orF (o.take (k + 1)) b = orF (o.take k) b ||| 2 ^ (o[k]).toNat := by
  unfold orF
  rw [List.take_succ_eq_append_getElem h, List.foldl_append]; rfl
end Go.Proofs.Ytfclemnkcpadpaa

namespace Go.Proofs.Ytfclemnkcpadpaa
set_option linter.unusedVariables false
set_option linter.unusedSimpArgs false
set_option linter.unnecessarySimpa false
open Go.RowKit Go.Flow Go.Shelf

section
variable (a : Option Addr) (c : Nat) (ar : Option Addr) (cr : Nat) (p : Post) (al : Option Addr) (l : List Ent) (M : Nat) (cl : Nat) (hM : Hid (l.length = M)) (w : World)
include hM
theorem oddM_eq (E : Int) (O : List Int) (n : Nat) (hE : Hid (bookErr p l = E)) (hO : Hid (oddOut p l = O)) (hn : Hid (O.length = n)) (hs : IntsAt w a p.sends) (hr : RoutesAt w ar p.routes) (sm : Hid (PostSmall p)) (he : EntsAt w al l) (hl : M ≤ 1000) :
    Calls Try.prog 40 #[.agg #[.slice a p.sends.length c, .slice ar p.routes.length cr, .int .i64 p.pat], .slice al M cl] w fun e w' => (∃ a c, e = .returned (.tuple #[.slice a n c, .int .i64 E]) ∧ IntsAt w' a O) ∧ Below w.heap.size w w' := by
  obtain ⟨rfl⟩ := hM
  rw [← hE.out, ← hn.out, ← hO.out]; exact Odd_any a c ar cr p al l cl w hs hr sm.out he (by omega)
omit a c ar cr p in
theorem entsM_eq (he : EntsAt w al l) (hl : M ≤ 1000) :
    Calls Try.prog 41 #[.slice al M cl] w fun e w' => (∃ a c, e = .returned (.slice a M c) ∧ EntsAt w' a l) ∧ Below w.heap.size w w' := by
  obtain ⟨rfl⟩ := hM
  exact entriesConv_any al l cl w he hl
theorem explM_eq (E : Int) (t : List (List (List Int))) (n : Nat) (hE : Hid (explErr p l = E)) (ht : Hid (explOut p l = t)) (hn : Hid (t.length = n)) (hs : IntsAt w a p.sends) (hr : RoutesAt w ar p.routes) (sm : Hid (PostSmall p)) (he : EntsAt w al l) (hl : M ≤ 1000) :
    Calls Try.prog 48 #[.agg #[.slice a p.sends.length c, .slice ar p.routes.length cr, .int .i64 p.pat], .slice al M cl] w fun e w' => (∃ a c, e = .returned (.tuple #[.slice a n c, .int .i64 E]) ∧ TruthAt w' a t ∧ (a = none → c = 0)) ∧ Below w.heap.size w w' := by
  obtain ⟨rfl⟩ := hM
  exact explain_eq a c ar cr p al l cl w E t n hE ht hn hs hr sm he hl
theorem proveM_eq (at_ : Option Addr) (t : List (List (List Int))) (N ct : Nat) (B : Bool) (hB : Hid (proveB p t l = B)) (hN : Hid (t.length = N)) (hs : IntsAt w a p.sends) (hr : RoutesAt w ar p.routes) (sm : Hid (PostSmall p)) (ht : TruthAt w at_ t) (st : Hid (TruthSmall t)) (he : EntsAt w al l) (hl : M ≤ 1000) :
    Calls Try.prog 52 #[.agg #[.slice a p.sends.length c, .slice ar p.routes.length cr, .int .i64 p.pat], .slice at_ N ct, .slice al M cl] w fun e w' => e = .returned (.bool B) ∧ Below w.heap.size w w' := by
  obtain ⟨rfl⟩ := hM
  exact prove_eq a c ar cr p at_ t N ct al l cl w B hB hN hs hr sm ht st he hl
end
theorem bookM_eq (a : Option Addr) (c : Nat) (ar : Option Addr) (cr : Nat) (p : Post) (al : Option Addr) (l : List Ent) (M : Nat) (cl : Nat) (hM : Hid (l.length = M)) (w : World) (E : Int) (hE : Hid (bookErr p l = E)) (hs : IntsAt w a p.sends) (hr : RoutesAt w ar p.routes) (sm : Hid (PostSmall p)) (he : EntsAt w al l) (hl : M ≤ 1000) :
    Calls Try.prog 42 #[.agg #[.slice a p.sends.length c, .slice ar p.routes.length cr, .int .i64 p.pat], .slice al M cl] w fun e w' => e = .returned (.int .i64 E) ∧ Below w.heap.size w w' := by
  obtain ⟨rfl⟩ := hM
  exact booked_eq a c ar cr p al l cl w E hE hs hr sm he (by omega)
theorem someM_eq (al : Option Addr) (l : List Ent) (M cl : Nat) (hM : Hid (l.length = M)) (b : Nat) (K : List Ent) (O : List Int) (nk no : Nat) (hK : Hid (keepB l b M = K)) (hO : Hid (outB b M = O)) (hnk : Hid (K.length = nk)) (hno : Hid (O.length = no)) (w : World) (hl : EntsAt w al l) (ll : M ≤ 10) (hb : b < 1024) :
    Calls Try.prog 50 #[.slice al M cl, .int .i64 (b : Int)] w fun e w' => (∃ a1 c1 a2 c2, e = .returned (.tuple #[.slice a1 nk c1, .slice a2 no c2]) ∧ EntsAt w' a1 K ∧ IntsAt w' a2 O ∧ (a2 = none → c2 = 0)) ∧ Below w.heap.size w w' := by
  obtain ⟨rfl⟩ := hM
  exact some_eq al l cl b K O nk no hK hO hnk hno w hl ll hb
theorem notedB_eq (a : Option Addr) (c : Nat) (ar : Option Addr) (cr : Nat) (p : Post) (at_ : Option Addr) (t : List (List (List Int))) (N ct : Nat) (aw : Option Addr) (ws : List Int) (cw : Nat) (many bits : Nat) (w : World) (J : List Ent) (M : Nat) (l : List Ent) (hM : Hid (many % 6 = M)) (hl : Hid (noteB J ws bits M = l)) (hJ : Hid (playF p t = J)) (hN : Hid (t.length = N)) (hn : Hid (J.length = N)) (hpos : 0 < N) (hs : IntsAt w a p.sends) (hr : RoutesAt w ar p.routes) (ht : TruthAt w at_ t) (ok : Hid (PlayOk p t)) (hw : U16At w aw ws) (hu : Hid (U16s ws)) (lw : ws.length ≤ 9223372036854775807) (hm : many ≤ 255) (hbt : bits ≤ 255) (hNb : N ≤ 1000) (hJb : Hid (JOk p J)) :
    Calls Try.prog 49 #[.agg #[.slice a p.sends.length c, .slice ar p.routes.length cr, .int .i64 p.pat], .slice at_ N ct, .slice aw ws.length cw, .int .u8 (many : Int), .int .u8 (bits : Int)] w fun e w' => (∃ ao co, e = .returned (.slice ao M co) ∧ EntsAt w' ao l ∧ (ao = none → co = 0)) ∧ Below w.heap.size w w' := by
  obtain ⟨rfl⟩ := hM
  obtain ⟨rfl⟩ := hl
  exact notedB_any a c ar cr p at_ t N ct aw ws cw many bits w J hJ hN hn hpos hs hr ht ok hw hu lw hm hbt hNb hJb.out.bd
def TrV (N : Nat) (t : List (List (List Int))) (v : Value) (w : World) : Prop := ∃ a c, v = .slice a N c ∧ TruthAt w a t
theorem TrV.kept {N : Nat} {t : List (List (List Int))} {v : Value} {w w' : World} (h : TrV N t v w) (hb : Below w.heap.size w w') : TrV N t v w' :=
  let ⟨a, c, e, ht⟩ := h
  ⟨a, c, e, ht.below hb⟩
theorem keepB_mem (l : List Ent) (b : Nat) : ∀ n, n ≤ l.length → ∀ e ∈ keepB l b n, e ∈ l
  | 0, _, e, he => by simp [keepB, bitsL, chKeep] at he
  | n + 1, h, e, he => by
    rw [keepB_take l b (show n < l.length by omega), List.mem_append] at he
    rcases he with he | he
    · exact keepB_mem l b n (by omega) e he
    · split at he
      · cases he
      · simp at he; subst he; exact List.getElem_mem _
theorem keep_book {p : Post} {l : List Ent} (h : bookErr p l = 0) (b : Nat) : bookErr p (keepB l b l.length) = 0 := by
  obtain ⟨h1, h2, h3⟩ := bookErr_ok h
  have hl := keepB_len l b l.length
  unfold bookErr
  rw [if_neg (by simpa using h1), if_neg (by omega), if_pos]
  rw [List.all_eq_true] at h3 ⊢
  exact fun e he => h3 e (keepB_mem l b _ (Nat.le_refl _) e he)
theorem orF_lt {n : Nat} : ∀ (o : List Int) (b : Nat), (∀ x ∈ o, 0 ≤ x ∧ x < (n : Int)) → b < 2 ^ n → orF o b < 2 ^ n
  | [], b, _, hb => hb
  | x :: o, b, h, hb => by
    have hx := h x (List.mem_cons_self ..)
    exact orF_lt o (b ||| 2 ^ x.toNat) (fun y hy => h y (List.mem_cons_of_mem _ hy)) (Nat.or_lt_two_pow hb (Nat.pow_lt_pow_right (by omega) (by omega)))
theorem or_small {a b : Nat} (ha : a < 2 ^ 10) (hb : b < 2 ^ 10) : bits .or .i64 (a : Int) (b : Int) = ((a ||| b : Nat) : Int) := by
  have hc : a ||| b < 2 ^ 10 := Nat.or_lt_two_pow ha hb
  unfold bits
  have e : (BitVec.ofInt IntKind.i64.bits (a : Int) ||| BitVec.ofInt IntKind.i64.bits (b : Int)).toNat = a ||| b := by
    show (BitVec.ofInt 64 (a : Int) ||| BitVec.ofInt 64 (b : Int)).toNat = a ||| b
    rw [BitVec.ofInt_natCast, BitVec.ofInt_natCast, BitVec.toNat_or, BitVec.toNat_ofNat, BitVec.toNat_ofNat, Nat.mod_eq_of_lt (by omega), Nat.mod_eq_of_lt (by omega)]
  simp only [e]
  exact IntWalk.i64_in _ (by omega)
theorem shl_small {q : Nat} (h : q ≤ 8) : wrap64 ((2 : Int) ^ q) = ((2 ^ q : Nat) : Int) := by
  have : q = 0 ∨ q = 1 ∨ q = 2 ∨ q = 3 ∨ q = 4 ∨ q = 5 ∨ q = 6 ∨ q = 7 ∨ q = 8 := by omega
  rcases this with rfl | rfl | rfl | rfl | rfl | rfl | rfl | rfl | rfl <;> decide +kernel
def leftL (p : Post) (ws : List Int) (m b : Nat) : List Ent := noteB (playF p (pkT p ws)) ws b (m % 6)

set_option maxRecDepth 100000 in
set_option maxHeartbeats 8000000 in
theorem left_a1 (a : Option Addr) (c : Nat) (ar : Option Addr) (cr : Nat) (p : Post) (aw : Option Addr) (ws : List Int) (cw : Nat) (m b o : Nat) (en : Ent) (w : World) (hs : IntsAt w a p.sends) (hr : RoutesAt w ar p.routes) (na : a = none → c = 0) (big : PostBig p) (hw : U16At w aw ws) (_ : aw = none → cw = 0) (lw0 : ws.length ≤ cw) (lw1 : cw ≤ maxLen) (hu : U16s ws) (hm : m ≤ 255) (hb : b ≤ 255) (ho : o ≤ 255) (hT : readyB p = false) :
    Calls Try.prog 13 #[.agg #[.slice a p.sends.length c, .slice ar p.routes.length cr, .int .i64 p.pat], .slice aw ws.length cw, .int .u8 (m : Int), .int .u8 (b : Int), .int .u8 (o : Int), .agg #[.int .i64 en.num, .int .i64 en.at_, .bool en.skip]] w fun e w' => e = .returned (.bool true) ∧ Below w.heap.size w w' := by

  have HB := Lib.hid big
  have HT := Lib.hid hT
  clear hT big
  go_enter Try.func13, Try.ntmps13
  go_wp2_with fail
  go_at_call 44
  refine (ready_eq a c ar cr p _ false HT (hs.below (by (repeat (first | exact Below.refl _ _ | refine Below.alloc ?_ (by first | omega | (simp; done) | (simp; omega)) _ | refine Below.drew ?_ | refine Below.setCell ?_ (by first | omega | (simp; done) | (simp; omega)) _ | refine Below.trans ?_ (Below.mono (by assumption) (by first | omega | (simp; done) | (simp; omega))))))) (hr.below (by (repeat (first | exact Below.refl _ _ | refine Below.alloc ?_ (by first | omega | (simp; done) | (simp; omega)) _ | refine Below.drew ?_ | refine Below.setCell ?_ (by first | omega | (simp; done) | (simp; omega)) _ | refine Below.trans ?_ (Below.mono (by assumption) (by first | omega | (simp; done) | (simp; omega))))))) HB.out).mono ?_
  rintro e w1 ⟨rfl, b1⟩
  have t1 : Below w.heap.size w w1 := by (repeat (first | exact Below.refl _ _ | refine Below.alloc ?_ (by first | omega | (simp; done) | (simp; omega)) _ | refine Below.drew ?_ | refine Below.setCell ?_ (by first | omega | (simp; done) | (simp; omega)) _ | refine Below.trans ?_ (Below.mono (by assumption) (by first | omega | (simp; done) | (simp; omega)))))
  replace hs := hs.below t1
  replace hr := hr.below t1
  replace hw := hw.below t1
  have C0 : Cells w1 w.heap.size #[.slice a p.sends.length c, .slice ar p.routes.length cr, .int .i64 p.pat] 25 := ((Cells.new _ _ _).alloc _).below b1
  have C1 : Cells w1 (w.heap.size + 1) #[.int .i64 en.num, .int .i64 en.at_, .bool en.skip] 93 := (Cells.new' _ _ _ _ (by simp)).below b1
  have q0 := C0.cell 0
  have q1 := C0.cell 1
  have q2 := C0.cell 2
  have lB := C0.lt
  have m0 := C1.cell 0
  have m1 := C1.cell 1
  have m2 := C1.cell 2
  have lE := C1.lt
  simp at q0 q1 q2 m0 m1 m2
  clear C0 C1
  go_wp2_with fail
  go_at_call 19
  refine (awake_any _).mono ?_
  rintro e w2 ⟨rfl, b2⟩
  have j2 : Below w1.heap.size w1 w2 := by (repeat (first | exact Below.refl _ _ | refine Below.alloc ?_ (by first | omega | (simp; done) | (simp; omega)) _ | refine Below.drew ?_ | refine Below.setCell ?_ (by first | omega | (simp; done) | (simp; omega)) _ | refine Below.trans ?_ (Below.mono (by assumption) (by first | omega | (simp; done) | (simp; omega)))))
  have t2 : Below w.heap.size w w2 := t1.trans (j2.mono t1.size)
  replace hs := hs.below j2
  replace hr := hr.below j2
  replace hw := hw.below j2
  replace q0 := below_cell j2 q0
  replace q1 := below_cell j2 q1
  replace q2 := below_cell j2 q2
  replace m0 := below_cell j2 m0
  replace m1 := below_cell j2 m1
  replace m2 := below_cell j2 m2
  replace lB := Nat.lt_of_lt_of_le lB j2.size
  replace lE := Nat.lt_of_lt_of_le lE j2.size
  go_wp2_with fail
  go_ret
  exact ⟨rfl, t2⟩

set_option maxRecDepth 100000 in
set_option maxHeartbeats 8000000 in
theorem left_a2 (a : Option Addr) (c : Nat) (ar : Option Addr) (cr : Nat) (p : Post) (aw : Option Addr) (ws : List Int) (cw : Nat) (m b o : Nat) (en : Ent) (w : World) (hs : IntsAt w a p.sends) (hr : RoutesAt w ar p.routes) (na : a = none → c = 0) (big : PostBig p) (hw : U16At w aw ws) (_ : aw = none → cw = 0) (lw0 : ws.length ≤ cw) (lw1 : cw ≤ maxLen) (hu : U16s ws) (hm : m ≤ 255) (hb : b ≤ 255) (ho : o ≤ 255) (hT : readyB p = true) (hz : explB p (keepB (leftL p ws m b) o (m % 6)) = false) (hk : bookErr p (leftL p ws m b ++ [en]) ≠ 0) :
    Calls Try.prog 13 #[.agg #[.slice a p.sends.length c, .slice ar p.routes.length cr, .int .i64 p.pat], .slice aw ws.length cw, .int .u8 (m : Int), .int .u8 (b : Int), .int .u8 (o : Int), .agg #[.int .i64 en.num, .int .i64 en.at_, .bool en.skip]] w fun e w' => e = .returned (.bool true) ∧ Below w.heap.size w w' := by

  have HB := Lib.hid big
  have HT := Lib.hid hT
  have SM := Lib.hid (ready_small hT).1
  have HE := Lib.hid (ready_small hT).2
  have HU := Lib.hid hu
  have lS : p.sends.length ≤ 1000 := SM.out.1
  have lR : p.routes.length ≤ 1000 := SM.out.2
  have hpos : 0 < p.sends.length := List.length_pos_iff.2 (postErr_ok HE.out).2.2.2.1
  have lw : ws.length ≤ 9223372036854775807 := by unfold maxLen at lw1; omega
  unfold leftL at hz hk
  obtain ⟨M, hM⟩ : ∃ M, m % 6 = M := ⟨_, rfl⟩
  rw [hM] at hz hk
  have hM5 : M ≤ 5 := by omega
  have hM6 : M ≤ 1000 := by omega
  have HM6 := Lib.hid hM
  have hsh := pkT_shape HE.out ws
  have hst := pkT_small HE.out ws
  have hlen := pkT_len p ws
  obtain ⟨t, ht⟩ : ∃ t, pkT p ws = t := ⟨_, rfl⟩
  rw [ht] at hsh hst hlen hz hk
  have HTt := Lib.hid ht
  have HtN := Lib.hid hlen
  have ST := Lib.hid hst
  have HPO := Lib.hid (playOk_of HE.out hsh)
  have hJ := play_ok HE.out hsh
  have nb := noteB_book HE.out hsh ws b (show M ≤ 8 by omega)
  have nl := noteB_len (playF p t) ws b M
  obtain ⟨J, hJe⟩ : ∃ J, playF p t = J := ⟨_, rfl⟩
  rw [hJe] at hJ nb nl hz hk
  obtain ⟨l, hl⟩ : ∃ l, noteB J ws b M = l := ⟨_, rfl⟩
  rw [hl] at nb nl hz hk
  have HJe := Lib.hid hJe
  have Hl := Lib.hid hl
  have HnJ := Lib.hid hJ.len
  have HJ := Lib.hid hJ
  have Hb := Lib.hid nb
  have HM := Lib.hid nl
  have hod : oddOut p l = oddF p l := by unfold oddOut; rw [if_pos nb]
  have hlk := left_keep HE.out l
  have hlw := left_which HE.out l o
  obtain ⟨O, hO⟩ : ∃ O, oddF p l = O := ⟨_, rfl⟩
  have hri := left_rise HE.out l hO
  have hmo := odd_more HE.out l en
  rw [hO] at hod hlk hlw hmo
  obtain ⟨nO, hnO⟩ : ∃ n, O.length = n := ⟨_, rfl⟩
  rw [hnO] at hmo
  rw [nl] at hri hlk hlw
  have Hri := Lib.hid hri
  have hOl : nO ≤ 100 := by
    have e := tryF_odd HE.out l
    have := tryF_len p l (2 ^ l.length)
    rw [e, hO, hnO, nl] at this
    omega
  have Hod := Lib.hid hod
  have HnO := Lib.hid hnO
  have hBl : orF O 0 < 2 ^ 10 := Nat.lt_of_lt_of_le (orF_lt O 0 hri.1 (Nat.two_pow_pos _)) (Nat.pow_le_pow_right (by omega) (by omega))
  obtain ⟨B, hB⟩ : ∃ B, orF O 0 = B := ⟨_, rfl⟩
  rw [hB] at hlk hBl
  have HBo := Lib.hid hB
  have kb1 := keep_book nb B
  have kb2 := keep_book nb o
  rw [nl] at kb1 kb2
  obtain ⟨K, hK⟩ : ∃ K, keepB l B M = K := ⟨_, rfl⟩
  obtain ⟨K2, hK2⟩ : ∃ K, keepB l o M = K := ⟨_, rfl⟩
  obtain ⟨T1, hT1⟩ : ∃ K, outB B M = K := ⟨_, rfl⟩
  obtain ⟨T2, hT2⟩ : ∃ K, outB o M = K := ⟨_, rfl⟩
  have hkl := keepB_len l B M
  have hkl2 := keepB_len l o M
  rw [hK] at kb1 hlk hkl
  rw [hK2] at kb2 hlw hz hkl2
  rw [hT2] at hlw
  have hT2l : T2.length ≤ M := by rw [← hT2]; exact outB_len o M
  obtain ⟨nK, hnK⟩ : ∃ n, K.length = n := ⟨_, rfl⟩
  obtain ⟨nK2, hnK2⟩ : ∃ n, K2.length = n := ⟨_, rfl⟩
  obtain ⟨nT1, hnT1⟩ : ∃ n, T1.length = n := ⟨_, rfl⟩
  obtain ⟨nT2, hnT2⟩ : ∃ n, T2.length = n := ⟨_, rfl⟩
  rw [hnK] at hkl
  rw [hnK2] at hkl2
  rw [hnT2] at hT2l
  have HK := Lib.hid hK
  have HK2 := Lib.hid hK2
  have HT1 := Lib.hid hT1
  have HT2 := Lib.hid hT2
  have HnK := Lib.hid hnK
  have HnK2 := Lib.hid hnK2
  have HnT1 := Lib.hid hnT1
  have HnT2 := Lib.hid hnT2
  have HX1 : Hid (explErr p K = 0) := Lib.hid (by unfold explErr; rw [if_neg (by simpa using kb1), if_pos hlk])
  have HX2 : Hid (explErr p K2 = 9) := Lib.hid (by unfold explErr; rw [if_neg (by simpa using kb2), hz]; rfl)
  obtain ⟨X1, hX1⟩ : ∃ X, explOut p K = X := ⟨_, rfl⟩
  obtain ⟨X2, hX2⟩ : ∃ X, explOut p K2 = X := ⟨_, rfl⟩
  obtain ⟨nX1, hnX1⟩ : ∃ n, X1.length = n := ⟨_, rfl⟩
  obtain ⟨nX2, hnX2⟩ : ∃ n, X2.length = n := ⟨_, rfl⟩
  have HXO1 := Lib.hid hX1
  have HXO2 := Lib.hid hX2
  have HnX1 := Lib.hid hnX1
  have HnX2 := Lib.hid hnX2
  obtain ⟨Y, hY⟩ : ∃ Y, l ++ [en] = Y := ⟨_, rfl⟩
  have hYl : Y.length = M + 1 := by rw [← hY]; simp [nl]
  rw [hY] at hk hmo
  have HY := Lib.hid hY
  have HYl := Lib.hid hYl
  obtain ⟨E2, hE2⟩ : ∃ E, bookErr p Y = E := ⟨_, rfl⟩
  rw [hE2] at hk
  have HE2 := Lib.hid hE2
  have hne : (E2 != 0) = true := by simpa using hk
  have hne2 : (E2 == 0) = false := by simpa using hk
  clear hE2
  have hwo : IntKind.i64.wrap (o : Int) = (o : Int) := IntWalk.i64_in _ (by omega)
  have ho10 : o < 1024 := by omega
  clear hT big hu lw0 lw1 hM hsh hst hlen ht hJ nb nl hJe hl hod hlk hlw hO hri hnO hB kb1 kb2 hK hK2 hT1 hT2 hnK hnK2 hnT1 hnT2 hX1 hX2 hnX1 hnX2 hY hYl hz hk hmo
  go_enter Try.func13, Try.ntmps13
  go_wp2_with fail
  go_at_call 44
  refine (ready_eq a c ar cr p _ true HT (hs.below (by (repeat (first | exact Below.refl _ _ | refine Below.alloc ?_ (by first | omega | (simp; done) | (simp; omega)) _ | refine Below.drew ?_ | refine Below.setCell ?_ (by first | omega | (simp; done) | (simp; omega)) _ | refine Below.trans ?_ (Below.mono (by assumption) (by first | omega | (simp; done) | (simp; omega))))))) (hr.below (by (repeat (first | exact Below.refl _ _ | refine Below.alloc ?_ (by first | omega | (simp; done) | (simp; omega)) _ | refine Below.drew ?_ | refine Below.setCell ?_ (by first | omega | (simp; done) | (simp; omega)) _ | refine Below.trans ?_ (Below.mono (by assumption) (by first | omega | (simp; done) | (simp; omega))))))) HB.out).mono ?_
  rintro e w1 ⟨rfl, b1⟩
  have t1 : Below w.heap.size w w1 := by (repeat (first | exact Below.refl _ _ | refine Below.alloc ?_ (by first | omega | (simp; done) | (simp; omega)) _ | refine Below.drew ?_ | refine Below.setCell ?_ (by first | omega | (simp; done) | (simp; omega)) _ | refine Below.trans ?_ (Below.mono (by assumption) (by first | omega | (simp; done) | (simp; omega)))))
  replace hs := hs.below t1
  replace hr := hr.below t1
  replace hw := hw.below t1
  have C0 : Cells w1 w.heap.size #[.slice a p.sends.length c, .slice ar p.routes.length cr, .int .i64 p.pat] 25 := ((Cells.new _ _ _).alloc _).below b1
  have C1 : Cells w1 (w.heap.size + 1) #[.int .i64 en.num, .int .i64 en.at_, .bool en.skip] 93 := (Cells.new' _ _ _ _ (by simp)).below b1
  have q0 := C0.cell 0
  have q1 := C0.cell 1
  have q2 := C0.cell 2
  have lB := C0.lt
  have m0 := C1.cell 0
  have m1 := C1.cell 1
  have m2 := C1.cell 2
  have lE := C1.lt
  simp at q0 q1 q2 m0 m1 m2
  clear C0 C1
  go_wp2_with fail
  (refine wp_region_seq 7 [] [7, 8] 180 [true, true, true, false, true, true, true] [TrV p.sends.length t] (by kernel_rfl) (by kernel_rfl) rfl (mono_cons (fun v w w' h hb => h.kept hb) mono_nil) ?_; simp only [pickOps, List.filterMap_cons, List.filterMap_nil, List.getElem?_toArray, List.getElem?_cons_succ, List.getElem?_cons_zero]; (repeat (refine wpFl_step _ rfl (fun w => (by go_simp; rfl)) ?_)); refine wpFl_nil ?_; simp only [maskOps, dummy, Act.put, List.setIfInBounds_toArray, List.set_cons_zero, List.set_cons_succ, List.take_succ_cons, List.take_zero, List.drop_succ_cons, List.drop_zero]; (repeat (refine wpQB_step (fun K hK => ?_); go_simp; first | (refine hK _ ?_; clear hK K) | (apply Exists.intro; refine ⟨fun ex => ?_, hK _ ?_⟩; (fail); clear hK K))); refine wpQB_nil ?_; simp only [relObl2, under, relEnd, and_true, List.nil_append, List.cons_append])
  refine ⟨fun e => ?_, fun e => ?_⟩
  · go_simp
    refine (pickedT_eq a c ar cr p aw ws cw _ t HTt (hs.below e.below) (hr.below e.below) (hw.below e.below) HU lw HE).mono ?_
    rintro _ _ ⟨⟨a2, c2, rfl, tA, nT⟩, hb⟩
    exact ⟨hb, a2, c2, rfl, tA⟩
  rintro v1 ⟨a2, c2, rfl, tA⟩
  simp only [Act.put, List.setIfInBounds_toArray, List.set_cons_zero, List.set_cons_succ]
  have b2 := e.below
  obtain ⟨w2, hwq⟩ : ∃ x : World, x = e.to := ⟨_, rfl⟩
  rw [← hwq] at b2 tA ⊢
  clear hwq e
  have j2 : Below w1.heap.size w1 w2 := by (repeat (first | exact Below.refl _ _ | refine Below.alloc ?_ (by first | omega | (simp; done) | (simp; omega)) _ | refine Below.drew ?_ | refine Below.setCell ?_ (by first | omega | (simp; done) | (simp; omega)) _ | refine Below.trans ?_ (Below.mono (by assumption) (by first | omega | (simp; done) | (simp; omega)))))
  have t2 : Below w.heap.size w w2 := t1.trans (j2.mono t1.size)
  replace hs := hs.below j2
  replace hr := hr.below j2
  replace hw := hw.below j2
  replace q0 := below_cell j2 q0
  replace q1 := below_cell j2 q1
  replace q2 := below_cell j2 q2
  replace m0 := below_cell j2 m0
  replace m1 := below_cell j2 m1
  replace m2 := below_cell j2 m2
  replace lB := Nat.lt_of_lt_of_le lB j2.size
  replace lE := Nat.lt_of_lt_of_le lE j2.size
  go_wp2_with fail
  go_at_call 49
  refine (notedB_eq a c ar cr p a2 t p.sends.length c2 aw ws cw m b _ J M l HM6 Hl HJe HtN HnJ hpos hs hr tA HPO hw HU lw hm hb lS HJ).mono ?_
  rintro e w3 ⟨⟨a3, c3, rfl, eL, nL⟩, b3⟩
  have j3 : Below w2.heap.size w2 w3 := by (repeat (first | exact Below.refl _ _ | refine Below.alloc ?_ (by first | omega | (simp; done) | (simp; omega)) _ | refine Below.drew ?_ | refine Below.setCell ?_ (by first | omega | (simp; done) | (simp; omega)) _ | refine Below.trans ?_ (Below.mono (by assumption) (by first | omega | (simp; done) | (simp; omega)))))
  have t3 : Below w.heap.size w w3 := t2.trans (j3.mono t2.size)
  replace hs := hs.below j3
  replace hr := hr.below j3
  replace hw := hw.below j3
  replace q0 := below_cell j3 q0
  replace q1 := below_cell j3 q1
  replace q2 := below_cell j3 q2
  replace m0 := below_cell j3 m0
  replace m1 := below_cell j3 m1
  replace m2 := below_cell j3 m2
  replace lB := Nat.lt_of_lt_of_le lB j3.size
  replace lE := Nat.lt_of_lt_of_le lE j3.size
  replace tA := tA.below j3
  clear tA hw
  go_wp2_with fail
  go_at_call 21
  refine (post_eq a c ar cr p _ hs hr SM na).mono ?_
  rintro e w4 ⟨⟨a4, c4, r4, d4, rfl, s4, o4⟩, b4⟩
  have j4 : Below w3.heap.size w3 w4 := by (repeat (first | exact Below.refl _ _ | refine Below.alloc ?_ (by first | omega | (simp; done) | (simp; omega)) _ | refine Below.drew ?_ | refine Below.setCell ?_ (by first | omega | (simp; done) | (simp; omega)) _ | refine Below.trans ?_ (Below.mono (by assumption) (by first | omega | (simp; done) | (simp; omega)))))
  have t4 : Below w.heap.size w w4 := t3.trans (j4.mono t3.size)
  replace hs := hs.below j4
  replace hr := hr.below j4
  replace q0 := below_cell j4 q0
  replace q1 := below_cell j4 q1
  replace q2 := below_cell j4 q2
  replace m0 := below_cell j4 m0
  replace m1 := below_cell j4 m1
  replace m2 := below_cell j4 m2
  replace lB := Nat.lt_of_lt_of_le lB j4.size
  replace lE := Nat.lt_of_lt_of_le lE j4.size
  replace eL := eL.below j4
  go_wp2_with fail
  go_at_call 41
  refine (entsM_eq a3 l M c3 HM _ eL hM6).mono ?_
  rintro e w5 ⟨⟨u4, v4, rfl, eB4⟩, b5⟩
  have j5 : Below w4.heap.size w4 w5 := by (repeat (first | exact Below.refl _ _ | refine Below.alloc ?_ (by first | omega | (simp; done) | (simp; omega)) _ | refine Below.drew ?_ | refine Below.setCell ?_ (by first | omega | (simp; done) | (simp; omega)) _ | refine Below.trans ?_ (Below.mono (by assumption) (by first | omega | (simp; done) | (simp; omega)))))
  have t5 : Below w.heap.size w w5 := t4.trans (j5.mono t4.size)
  replace hs := hs.below j5
  replace hr := hr.below j5
  replace q0 := below_cell j5 q0
  replace q1 := below_cell j5 q1
  replace q2 := below_cell j5 q2
  replace m0 := below_cell j5 m0
  replace m1 := below_cell j5 m1
  replace m2 := below_cell j5 m2
  replace lB := Nat.lt_of_lt_of_le lB j5.size
  replace lE := Nat.lt_of_lt_of_le lE j5.size
  replace eL := eL.below j5
  replace s4 := s4.below j5
  replace o4 := o4.below j5
  go_wp2_with fail
  go_at_call 40
  refine (oddM_eq a4 c4 r4 d4 p u4 l M v4 HM _ 0 O nO Hb Hod HnO s4 o4 SM eB4 hM6).mono ?_
  rintro e w6 ⟨⟨e4, f4, rfl, i4⟩, b6⟩
  have j6 : Below w5.heap.size w5 w6 := by (repeat (first | exact Below.refl _ _ | refine Below.alloc ?_ (by first | omega | (simp; done) | (simp; omega)) _ | refine Below.drew ?_ | refine Below.setCell ?_ (by first | omega | (simp; done) | (simp; omega)) _ | refine Below.trans ?_ (Below.mono (by assumption) (by first | omega | (simp; done) | (simp; omega)))))
  have t6 : Below w.heap.size w w6 := t5.trans (j6.mono t5.size)
  replace hs := hs.below j6
  replace hr := hr.below j6
  replace q0 := below_cell j6 q0
  replace q1 := below_cell j6 q1
  replace q2 := below_cell j6 q2
  replace m0 := below_cell j6 m0
  replace m1 := below_cell j6 m1
  replace m2 := below_cell j6 m2
  replace lB := Nat.lt_of_lt_of_le lB j6.size
  replace lE := Nat.lt_of_lt_of_le lE j6.size
  replace eL := eL.below j6
  replace s4 := s4.below j6
  replace o4 := o4.below j6
  replace eB4 := eB4.below j6
  clear s4 o4 eB4
  clear HTt HtN ST HPO HJe Hl HnJ HJ HM6 Hod Hb
  go_wp2_with fail
  go_loopw [16, 17] (fun x1 u wr => ∃ k : Nat, k ≤ nO ∧ u = .int .i64 k ∧ x1 = .int .i64 ((orF (O.take k) 0 : Nat) : Int) ∧ Below w6.heap.size w6 wr) (fun _ u _ => nO - (intOf u).toNat)
  case atStart => exact ⟨0, Nat.zero_le _, rfl, rfl, Below.refl _ _⟩
  case round =>
    obtain ⟨k, hk, rfl, rfl, hb6⟩ := hrel
    have z6 := hb6.size
    by_cases hkl : k < nO
    · have hkI : (k : Int) < (nO : Int) := by omega
      have hkO : k < O.length := by rw [HnO.out]; exact hkl
      have hX := Hri.out.1 _ (List.getElem_mem hkO)
      have hup := Hri.out.2
      have hot := orF_take O hkO 0
      have hbk : orF (O.take k) 0 < 2 ^ 10 := Nat.lt_of_lt_of_le (orF_lt (O.take k) 0 (fun x hx => Hri.out.1 x (List.mem_of_mem_take hx)) (Nat.two_pow_pos _)) (Nat.pow_le_pow_right (by omega) (show M ≤ 10 by omega))
      obtain ⟨g0, off0, rfl, hg0, s0⟩ := (i4.below hb6) k hkO
      replace s0 : wr.cell? ⟨g0, off0 + k, none⟩ = some (.int .i64 O[k]) := s0.trans (by simp [hkO])
      have hpv : ∀ j, j + 1 = k → ∃ y : Int, wr.cell? ⟨g0, off0 + j, none⟩ = some (.int .i64 y) ∧ y < O[k] := fun j hj => by
        subst hj
        have hj : j < O.length := by omega
        obtain ⟨g1, off1, hh, _, s1⟩ := (i4.below hb6) j hj
        cases hh
        exact ⟨O[j], s1.trans (by simp [hj]), hup j hkO⟩
      obtain ⟨x, hx⟩ : ∃ x, O[k] = x := ⟨_, rfl⟩
      rw [hx] at hX s0 hot hpv
      have hq : x.toNat ≤ 4 := by omega
      have n0 : ¬ (x < 0) := by omega
      have n1 : ¬ ((M : Int) ≤ x) := by omega
      have e0 : decide (x < 0) = false := decide_eq_false n0
      have e1 : decide ((M : Int) ≤ x) = false := decide_eq_false n1
      have hx0 : 0 ≤ x := hX.1
      have hcu : IntKind.u64.wrap x = x := by simp [IntKind.wrap, IntKind.bits, IntKind.signed]; omega
      have hsl := shl_small (show x.toNat ≤ 8 by omega)
      have h2q : 2 ^ x.toNat < 2 ^ 10 := Nat.pow_lt_pow_right (by omega) (by omega)
      have hor := or_small hbk h2q
      rw [← hot] at hor
      obtain ⟨S, hS⟩ : ∃ S, orF (O.take k) 0 = S := ⟨_, rfl⟩
      obtain ⟨S2, hS2⟩ : ∃ S, orF (O.take (k + 1)) 0 = S := ⟨_, rfl⟩
      obtain ⟨Q, hQ⟩ : ∃ Q : Nat, 2 ^ x.toNat = Q := ⟨_, rfl⟩
      rw [hQ] at hsl hor
      rw [hS] at hor ⊢
      rw [hS2] at hor
      have HS2 := Lib.hid hS2
      clear hS hS2 hQ hbk hot h2q hx hup hX
      rcases Nat.eq_zero_or_pos k with rfl | hkp
      · clear hpv
        simp only [Nat.add_zero] at s0
        go_wp2
        (refine wp_region_ext 30 (by kernel_rfl) (by kernel_rfl) ?_; simp only [List.take_succ_cons, List.take_zero, List.drop_succ_cons, List.drop_zero]; (repeat (go_big_quiet_step ((fail)))); refine wpQuiet_nil ?_; rintro _ ⟨ex, rfl⟩; have hex := ex.below; have hexz := ex.size; (try simp at hexz); (try (have hy0 : w.heap.size < ex.to.heap.size := by omega)); (try (have hy1 : w.heap.size + 1 < ex.to.heap.size := by omega)); (try (have hy2 : w.heap.size + 2 < ex.to.heap.size := by omega)))
        have b7 := ex.below
        obtain ⟨W7, hW7⟩ : ∃ x : World, x = ex.to := ⟨_, rfl⟩
        rw [← hW7] at b7 ⊢
        clear hW7
        have c7' := hb6.trans (b7.mono z6)
        replace s0 := below_cell b7 s0
        have hg7 := cell_ltK s0
        go_wp2
        go_roundw
        case rel => exact ⟨0 + 1, by omega, by go_num, by rw [HS2.out], c7'⟩
        case measure => simp [intOf]; omega
      · obtain ⟨j, hj⟩ : ∃ j, j + 1 = k := ⟨k - 1, by omega⟩
        obtain ⟨y, s1, hy⟩ := hpv j hj
        clear hpv
        have hk0 : (0 : Int) < (k : Int) := by omega
        have hw1 : IntKind.i64.wrap ((k : Int) - 1) = (j : Int) := by rw [IntWalk.i64_in _ (by omega)]; omega
        have hjI : (j : Int) < (nO : Int) := by omega
        have n2 : ¬ (x ≤ y) := by omega
        have e2 : decide (x ≤ y) = false := decide_eq_false n2
        go_wp2
        (refine wp_region_ext 30 (by kernel_rfl) (by kernel_rfl) ?_; simp only [List.take_succ_cons, List.take_zero, List.drop_succ_cons, List.drop_zero]; (repeat (go_big_quiet_step ((fail)))); refine wpQuiet_nil ?_; rintro _ ⟨ex, rfl⟩; have hex := ex.below; have hexz := ex.size; (try simp at hexz); (try (have hy0 : w.heap.size < ex.to.heap.size := by omega)); (try (have hy1 : w.heap.size + 1 < ex.to.heap.size := by omega)); (try (have hy2 : w.heap.size + 2 < ex.to.heap.size := by omega)))
        have b7 := ex.below
        obtain ⟨W7, hW7⟩ : ∃ x : World, x = ex.to := ⟨_, rfl⟩
        rw [← hW7] at b7 ⊢
        clear hW7
        have c7' := hb6.trans (b7.mono z6)
        replace s0 := below_cell b7 s0
        have hg7 := cell_ltK s0
        go_wp2
        go_roundw
        case rel => exact ⟨k + 1, by omega, by go_num, by rw [HS2.out], c7'⟩
        case measure => simp [intOf]; omega
    · have hkI : ¬ ((k : Int) < (nO : Int)) := by omega
      obtain rfl : k = nO := by omega
      rw [show O.take k = O by rw [← HnO.out, List.take_length], HBo.out]
      clear hk hkl
      have b7 := hb6
      obtain ⟨w7, hwq⟩ : ∃ x : World, x = wr := ⟨_, rfl⟩
      subst hwq
      have j7 : Below w6.heap.size w6 w7 := by (repeat (first | exact Below.refl _ _ | refine Below.alloc ?_ (by first | omega | (simp; done) | (simp; omega)) _ | refine Below.drew ?_ | refine Below.setCell ?_ (by first | omega | (simp; done) | (simp; omega)) _ | refine Below.trans ?_ (Below.mono (by assumption) (by first | omega | (simp; done) | (simp; omega)))))
      have t7 : Below w.heap.size w w7 := t6.trans (j7.mono t6.size)
      replace hs := hs.below j7
      replace hr := hr.below j7
      replace q0 := below_cell j7 q0
      replace q1 := below_cell j7 q1
      replace q2 := below_cell j7 q2
      replace m0 := below_cell j7 m0
      replace m1 := below_cell j7 m1
      replace m2 := below_cell j7 m2
      replace lB := Nat.lt_of_lt_of_le lB j7.size
      replace lE := Nat.lt_of_lt_of_le lE j7.size
      replace eL := eL.below j7
      replace i4 := i4.below j7
      have r7 : Below w6.heap.size w6 w7 := j7
      go_wp2_with fail
      go_at_call 50
      refine (someM_eq a3 l M c3 HM B K T1 nK nT1 HK HT1 HnK HnT1 _ eL (by omega) hBl).mono ?_
      rintro e w8 ⟨⟨a5, c5, x5, y5, rfl, eK, iT, nT⟩, b8⟩
      have j8 : Below w7.heap.size w7 w8 := by (repeat (first | exact Below.refl _ _ | refine Below.alloc ?_ (by first | omega | (simp; done) | (simp; omega)) _ | refine Below.drew ?_ | refine Below.setCell ?_ (by first | omega | (simp; done) | (simp; omega)) _ | refine Below.trans ?_ (Below.mono (by assumption) (by first | omega | (simp; done) | (simp; omega)))))
      have t8 : Below w.heap.size w w8 := t7.trans (j8.mono t7.size)
      have r8 : Below w6.heap.size w6 w8 := r7.trans (j8.mono r7.size)
      replace hs := hs.below j8
      replace hr := hr.below j8
      replace q0 := below_cell j8 q0
      replace q1 := below_cell j8 q1
      replace q2 := below_cell j8 q2
      replace m0 := below_cell j8 m0
      replace m1 := below_cell j8 m1
      replace m2 := below_cell j8 m2
      replace lB := Nat.lt_of_lt_of_le lB j8.size
      replace lE := Nat.lt_of_lt_of_le lE j8.size
      replace eL := eL.below j8
      replace i4 := i4.below j8
      clear iT nT
      go_wp2_with fail
      go_at_call 50
      refine (someM_eq a3 l M c3 HM o K2 T2 nK2 nT2 HK2 HT2 HnK2 HnT2 _ eL (by omega) ho10).mono ?_
      rintro e w9 ⟨⟨a6, c6, x6, y6, rfl, eK2, iT2, nT2'⟩, b9⟩
      have j9 : Below w8.heap.size w8 w9 := by (repeat (first | exact Below.refl _ _ | refine Below.alloc ?_ (by first | omega | (simp; done) | (simp; omega)) _ | refine Below.drew ?_ | refine Below.setCell ?_ (by first | omega | (simp; done) | (simp; omega)) _ | refine Below.trans ?_ (Below.mono (by assumption) (by first | omega | (simp; done) | (simp; omega)))))
      have t9 : Below w.heap.size w w9 := t8.trans (j9.mono t8.size)
      have r9 : Below w6.heap.size w6 w9 := r8.trans (j9.mono r8.size)
      replace hs := hs.below j9
      replace hr := hr.below j9
      replace q0 := below_cell j9 q0
      replace q1 := below_cell j9 q1
      replace q2 := below_cell j9 q2
      replace m0 := below_cell j9 m0
      replace m1 := below_cell j9 m1
      replace m2 := below_cell j9 m2
      replace lB := Nat.lt_of_lt_of_le lB j9.size
      replace lE := Nat.lt_of_lt_of_le lE j9.size
      replace eL := eL.below j9
      replace i4 := i4.below j9
      replace eK := eK.below j9
      go_wp2_with fail
      go_at_call 21
      refine (post_eq a c ar cr p _ hs hr SM na).mono ?_
      rintro e w10 ⟨⟨a7, c7, r7, d7, rfl, s7, o7⟩, b10⟩
      have j10 : Below w9.heap.size w9 w10 := by (repeat (first | exact Below.refl _ _ | refine Below.alloc ?_ (by first | omega | (simp; done) | (simp; omega)) _ | refine Below.drew ?_ | refine Below.setCell ?_ (by first | omega | (simp; done) | (simp; omega)) _ | refine Below.trans ?_ (Below.mono (by assumption) (by first | omega | (simp; done) | (simp; omega)))))
      have t10 : Below w.heap.size w w10 := t9.trans (j10.mono t9.size)
      have r10 : Below w6.heap.size w6 w10 := r9.trans (j10.mono r9.size)
      replace hs := hs.below j10
      replace hr := hr.below j10
      replace q0 := below_cell j10 q0
      replace q1 := below_cell j10 q1
      replace q2 := below_cell j10 q2
      replace m0 := below_cell j10 m0
      replace m1 := below_cell j10 m1
      replace m2 := below_cell j10 m2
      replace lB := Nat.lt_of_lt_of_le lB j10.size
      replace lE := Nat.lt_of_lt_of_le lE j10.size
      replace eL := eL.below j10
      replace i4 := i4.below j10
      replace eK := eK.below j10
      replace eK2 := eK2.below j10
      replace iT2 := iT2.below j10
      go_wp2_with fail
      go_at_call 41
      refine (entsM_eq a5 K nK c5 HnK _ eK (by omega)).mono ?_
      rintro e w11 ⟨⟨u7, v7, rfl, eB7⟩, b11⟩
      have j11 : Below w10.heap.size w10 w11 := by (repeat (first | exact Below.refl _ _ | refine Below.alloc ?_ (by first | omega | (simp; done) | (simp; omega)) _ | refine Below.drew ?_ | refine Below.setCell ?_ (by first | omega | (simp; done) | (simp; omega)) _ | refine Below.trans ?_ (Below.mono (by assumption) (by first | omega | (simp; done) | (simp; omega)))))
      have t11 : Below w.heap.size w w11 := t10.trans (j11.mono t10.size)
      have r11 : Below w6.heap.size w6 w11 := r10.trans (j11.mono r10.size)
      replace hs := hs.below j11
      replace hr := hr.below j11
      replace q0 := below_cell j11 q0
      replace q1 := below_cell j11 q1
      replace q2 := below_cell j11 q2
      replace m0 := below_cell j11 m0
      replace m1 := below_cell j11 m1
      replace m2 := below_cell j11 m2
      replace lB := Nat.lt_of_lt_of_le lB j11.size
      replace lE := Nat.lt_of_lt_of_le lE j11.size
      replace eL := eL.below j11
      replace i4 := i4.below j11
      replace eK := eK.below j11
      replace eK2 := eK2.below j11
      replace iT2 := iT2.below j11
      replace s7 := s7.below j11
      replace o7 := o7.below j11
      go_wp2_with fail
      go_at_call 48
      refine (explM_eq a7 c7 r7 d7 p u7 K nK v7 HnK _ 0 X1 nX1 HX1 HXO1 HnX1 s7 o7 SM eB7 (by omega)).mono ?_
      rintro e w12 ⟨⟨e7, f7, rfl, tX, nx7⟩, b12⟩
      have j12 : Below w11.heap.size w11 w12 := by (repeat (first | exact Below.refl _ _ | refine Below.alloc ?_ (by first | omega | (simp; done) | (simp; omega)) _ | refine Below.drew ?_ | refine Below.setCell ?_ (by first | omega | (simp; done) | (simp; omega)) _ | refine Below.trans ?_ (Below.mono (by assumption) (by first | omega | (simp; done) | (simp; omega)))))
      have t12 : Below w.heap.size w w12 := t11.trans (j12.mono t11.size)
      have r12 : Below w6.heap.size w6 w12 := r11.trans (j12.mono r11.size)
      replace hs := hs.below j12
      replace hr := hr.below j12
      replace q0 := below_cell j12 q0
      replace q1 := below_cell j12 q1
      replace q2 := below_cell j12 q2
      replace m0 := below_cell j12 m0
      replace m1 := below_cell j12 m1
      replace m2 := below_cell j12 m2
      replace lB := Nat.lt_of_lt_of_le lB j12.size
      replace lE := Nat.lt_of_lt_of_le lE j12.size
      replace eL := eL.below j12
      replace i4 := i4.below j12
      replace eK := eK.below j12
      replace eK2 := eK2.below j12
      replace iT2 := iT2.below j12
      replace s7 := s7.below j12
      replace o7 := o7.below j12
      replace eB7 := eB7.below j12
      clear tX nx7
      clear s7 o7 eB7 eK
      go_wp2_with fail
      go_at_call 21
      refine (post_eq a c ar cr p _ hs hr SM na).mono ?_
      rintro e w13 ⟨⟨a8, c8, r8, d8, rfl, s8, o8⟩, b13⟩
      have j13 : Below w12.heap.size w12 w13 := by (repeat (first | exact Below.refl _ _ | refine Below.alloc ?_ (by first | omega | (simp; done) | (simp; omega)) _ | refine Below.drew ?_ | refine Below.setCell ?_ (by first | omega | (simp; done) | (simp; omega)) _ | refine Below.trans ?_ (Below.mono (by assumption) (by first | omega | (simp; done) | (simp; omega)))))
      have t13 : Below w.heap.size w w13 := t12.trans (j13.mono t12.size)
      have r13 : Below w6.heap.size w6 w13 := r12.trans (j13.mono r12.size)
      replace hs := hs.below j13
      replace hr := hr.below j13
      replace q0 := below_cell j13 q0
      replace q1 := below_cell j13 q1
      replace q2 := below_cell j13 q2
      replace m0 := below_cell j13 m0
      replace m1 := below_cell j13 m1
      replace m2 := below_cell j13 m2
      replace lB := Nat.lt_of_lt_of_le lB j13.size
      replace lE := Nat.lt_of_lt_of_le lE j13.size
      replace eL := eL.below j13
      replace i4 := i4.below j13
      replace eK2 := eK2.below j13
      replace iT2 := iT2.below j13
      go_wp2_with fail
      go_at_call 41
      refine (entsM_eq a6 K2 nK2 c6 HnK2 _ eK2 (by omega)).mono ?_
      rintro e w14 ⟨⟨u8, v8, rfl, eB8⟩, b14⟩
      have j14 : Below w13.heap.size w13 w14 := by (repeat (first | exact Below.refl _ _ | refine Below.alloc ?_ (by first | omega | (simp; done) | (simp; omega)) _ | refine Below.drew ?_ | refine Below.setCell ?_ (by first | omega | (simp; done) | (simp; omega)) _ | refine Below.trans ?_ (Below.mono (by assumption) (by first | omega | (simp; done) | (simp; omega)))))
      have t14 : Below w.heap.size w w14 := t13.trans (j14.mono t13.size)
      have r14 : Below w6.heap.size w6 w14 := r13.trans (j14.mono r13.size)
      replace hs := hs.below j14
      replace hr := hr.below j14
      replace q0 := below_cell j14 q0
      replace q1 := below_cell j14 q1
      replace q2 := below_cell j14 q2
      replace m0 := below_cell j14 m0
      replace m1 := below_cell j14 m1
      replace m2 := below_cell j14 m2
      replace lB := Nat.lt_of_lt_of_le lB j14.size
      replace lE := Nat.lt_of_lt_of_le lE j14.size
      replace eL := eL.below j14
      replace i4 := i4.below j14
      replace eK2 := eK2.below j14
      replace iT2 := iT2.below j14
      replace s8 := s8.below j14
      replace o8 := o8.below j14
      go_wp2_with fail
      go_at_call 48
      refine (explM_eq a8 c8 r8 d8 p u8 K2 nK2 v8 HnK2 _ 9 X2 nX2 HX2 HXO2 HnX2 s8 o8 SM eB8 (by omega)).mono ?_
      rintro e w15 ⟨⟨e8, f8, rfl, tX, nx8⟩, b15⟩
      have j15 : Below w14.heap.size w14 w15 := by (repeat (first | exact Below.refl _ _ | refine Below.alloc ?_ (by first | omega | (simp; done) | (simp; omega)) _ | refine Below.drew ?_ | refine Below.setCell ?_ (by first | omega | (simp; done) | (simp; omega)) _ | refine Below.trans ?_ (Below.mono (by assumption) (by first | omega | (simp; done) | (simp; omega)))))
      have t15 : Below w.heap.size w w15 := t14.trans (j15.mono t14.size)
      have r15 : Below w6.heap.size w6 w15 := r14.trans (j15.mono r14.size)
      replace hs := hs.below j15
      replace hr := hr.below j15
      replace q0 := below_cell j15 q0
      replace q1 := below_cell j15 q1
      replace q2 := below_cell j15 q2
      replace m0 := below_cell j15 m0
      replace m1 := below_cell j15 m1
      replace m2 := below_cell j15 m2
      replace lB := Nat.lt_of_lt_of_le lB j15.size
      replace lE := Nat.lt_of_lt_of_le lE j15.size
      replace eL := eL.below j15
      replace i4 := i4.below j15
      replace eK2 := eK2.below j15
      replace iT2 := iT2.below j15
      replace s8 := s8.below j15
      replace o8 := o8.below j15
      replace eB8 := eB8.below j15
      clear tX nx8
      clear s8 o8 eB8 eK2
      clear iT2 i4
      have hal : a3 = none → M = 0 ∧ c3 = 0 := fun h => by
        refine ⟨?_, nL h⟩
        subst h
        rcases Nat.eq_zero_or_pos M with e | e
        · exact e
        · obtain ⟨b, off, hh, _⟩ := eL 0 (by rw [HM.out]; exact e)
          cases hh
      go_wp2_with fail
      (refine wp_region_seq 5 [] [5, 6] 180 [false, true, false, true, false] [LitV w15.heap.size 0 #[] 93, OwnV 93 3 w15.heap.size M (flatE l), LitV w15.heap.size 1 #[.int .i64 en.num, .int .i64 en.at_, .bool en.skip] 93] (by kernel_rfl) (by kernel_rfl) rfl (mono_cons (fun v w w' h hb => h.kept hb) (mono_cons (fun v w w' h hb => h.kept hb) (mono_cons (fun v w w' h hb => h.kept hb) mono_nil))) ?_; simp only [pickOps, List.filterMap_cons, List.filterMap_nil, List.getElem?_toArray, List.getElem?_cons_succ, List.getElem?_cons_zero]; (repeat (refine wpFl_step _ rfl (fun w => (by go_simp; rfl)) ?_)); refine wpFl_nil ?_; simp only [maskOps, dummy, Act.put, List.setIfInBounds_toArray, List.set_cons_zero, List.set_cons_succ, List.take_succ_cons, List.take_zero, List.drop_succ_cons, List.drop_zero]; (repeat (refine wpQB_step (fun K hK => ?_); go_simp; first | (refine hK _ ?_; clear hK K) | (apply Exists.intro; refine ⟨fun ex => ?_, hK _ ?_⟩; (fail); clear hK K))); refine wpQB_nil ?_; simp only [relObl2, under, relEnd, and_true, List.nil_append, List.cons_append])
      refine ⟨⟨fun e => ?_, fun e v1 h1 => ?_, fun e v1 h1 v2 h2 => ?_⟩, fun e => ?_⟩
      · go_simp
        exact ⟨(Below.refl _ _).alloc (Nat.le_refl _) _, e.to.heap.size, rfl, e.size, Cells.new _ _ _⟩
      · obtain ⟨g, rfl, hg, hc⟩ := h1 (by kernel_rfl)
        exact gives_app0 el_rentries e.to w15.heap.size g _ _ rfl rfl hc hg a3 M c3 (flatE l) rfl hal (by rw [flatE_len, HM.out]) (SrcAt.ents (eL.below e.below)) (by unfold maxLen; omega) (by omega)
      · go_simp
        exact ⟨(Below.refl _ _).alloc (Nat.le_refl _) _, e.to.heap.size, rfl, e.size, Cells.new _ _ _⟩
      rintro v1 - v2 ⟨a9, c9, rfl, o9⟩ v3 ⟨g3, rfl, hg3, hc3⟩
      simp only [Act.put, List.setIfInBounds_toArray, List.set_cons_zero, List.set_cons_succ]
      have heb := e.below
      obtain ⟨x9, hx9⟩ : ∃ x : World, x = e.to := ⟨_, rfl⟩
      rw [← hx9] at heb hc3 o9 ⊢
      clear hx9 e
      have hez := heb.size
      refine wpList_app el_rentries rfl _ _ rfl w15.heap.size a9 M c9 _ rfl o9 (some ⟨g3, 0, none⟩) 1 1 [.int .i64 en.num, .int .i64 en.at_, .bool en.skip] rfl (fun h => by cases h) rfl hc3.src (fun u hu => by simp at hu; rcases hu with rfl | rfl | rfl <;> rfl) (by unfold maxLen; omega) (by omega) (by omega) ?_
      intro a9 c9 w16 o7 b7
      have b16 := heb.trans b7
      have eY : EntsAt w16 a9 Y := by
        rw [← HY.out]
        exact OwnL.ents (by rw [flatE_snoc]; exact o7)
      clear o7 b7 heb hez hc3 hg3 o9 hal
      have j16 : Below w15.heap.size w15 w16 := by (repeat (first | exact Below.refl _ _ | refine Below.alloc ?_ (by first | omega | (simp; done) | (simp; omega)) _ | refine Below.drew ?_ | refine Below.setCell ?_ (by first | omega | (simp; done) | (simp; omega)) _ | refine Below.trans ?_ (Below.mono (by assumption) (by first | omega | (simp; done) | (simp; omega)))))
      have t16 : Below w.heap.size w w16 := t15.trans (j16.mono t15.size)
      have r16 : Below w6.heap.size w6 w16 := r15.trans (j16.mono r15.size)
      replace hs := hs.below j16
      replace hr := hr.below j16
      replace q0 := below_cell j16 q0
      replace q1 := below_cell j16 q1
      replace q2 := below_cell j16 q2
      replace m0 := below_cell j16 m0
      replace m1 := below_cell j16 m1
      replace m2 := below_cell j16 m2
      replace lB := Nat.lt_of_lt_of_le lB j16.size
      replace lE := Nat.lt_of_lt_of_le lE j16.size
      replace eL := eL.below j16
      clear eL
      go_wp2_with fail
      go_at_call 42
      refine (bookM_eq a c ar cr p a9 Y (M + 1) c9 HYl _ E2 HE2 hs hr SM eY (by omega)).mono ?_
      rintro e w17 ⟨rfl, b17⟩
      have j17 : Below w16.heap.size w16 w17 := by (repeat (first | exact Below.refl _ _ | refine Below.alloc ?_ (by first | omega | (simp; done) | (simp; omega)) _ | refine Below.drew ?_ | refine Below.setCell ?_ (by first | omega | (simp; done) | (simp; omega)) _ | refine Below.trans ?_ (Below.mono (by assumption) (by first | omega | (simp; done) | (simp; omega)))))
      have t17 : Below w.heap.size w w17 := t16.trans (j17.mono t16.size)
      have r17 : Below w6.heap.size w6 w17 := r16.trans (j17.mono r16.size)
      replace hs := hs.below j17
      replace hr := hr.below j17
      replace q0 := below_cell j17 q0
      replace q1 := below_cell j17 q1
      replace q2 := below_cell j17 q2
      replace m0 := below_cell j17 m0
      replace m1 := below_cell j17 m1
      replace m2 := below_cell j17 m2
      replace lB := Nat.lt_of_lt_of_le lB j17.size
      replace lE := Nat.lt_of_lt_of_le lE j17.size
      replace eY := eY.below j17
      go_wp2_with fail
      go_at_call 19
      refine (awake_any _).mono ?_
      rintro e w18 ⟨rfl, b18⟩
      have j18 : Below w17.heap.size w17 w18 := by (repeat (first | exact Below.refl _ _ | refine Below.alloc ?_ (by first | omega | (simp; done) | (simp; omega)) _ | refine Below.drew ?_ | refine Below.setCell ?_ (by first | omega | (simp; done) | (simp; omega)) _ | refine Below.trans ?_ (Below.mono (by assumption) (by first | omega | (simp; done) | (simp; omega)))))
      have t18 : Below w.heap.size w w18 := t17.trans (j18.mono t17.size)
      have r18 : Below w6.heap.size w6 w18 := r17.trans (j18.mono r17.size)
      replace hs := hs.below j18
      replace hr := hr.below j18
      replace q0 := below_cell j18 q0
      replace q1 := below_cell j18 q1
      replace q2 := below_cell j18 q2
      replace m0 := below_cell j18 m0
      replace m1 := below_cell j18 m1
      replace m2 := below_cell j18 m2
      replace lB := Nat.lt_of_lt_of_le lB j18.size
      replace lE := Nat.lt_of_lt_of_le lE j18.size
      replace eY := eY.below j18
      go_wp2_with fail
      go_ret
      exact ⟨rfl, t18⟩

set_option maxRecDepth 100000 in
set_option maxHeartbeats 8000000 in
theorem left_a3 (a : Option Addr) (c : Nat) (ar : Option Addr) (cr : Nat) (p : Post) (aw : Option Addr) (ws : List Int) (cw : Nat) (m b o : Nat) (en : Ent) (w : World) (hs : IntsAt w a p.sends) (hr : RoutesAt w ar p.routes) (na : a = none → c = 0) (big : PostBig p) (hw : U16At w aw ws) (_ : aw = none → cw = 0) (lw0 : ws.length ≤ cw) (lw1 : cw ≤ maxLen) (hu : U16s ws) (hm : m ≤ 255) (hb : b ≤ 255) (ho : o ≤ 255) (hT : readyB p = true) (hz : explB p (keepB (leftL p ws m b) o (m % 6)) = false) (hk : bookErr p (leftL p ws m b ++ [en]) = 0) :
    Calls Try.prog 13 #[.agg #[.slice a p.sends.length c, .slice ar p.routes.length cr, .int .i64 p.pat], .slice aw ws.length cw, .int .u8 (m : Int), .int .u8 (b : Int), .int .u8 (o : Int), .agg #[.int .i64 en.num, .int .i64 en.at_, .bool en.skip]] w fun e w' => e = .returned (.bool true) ∧ Below w.heap.size w w' := by

  have HB := Lib.hid big
  have HT := Lib.hid hT
  have SM := Lib.hid (ready_small hT).1
  have HE := Lib.hid (ready_small hT).2
  have HU := Lib.hid hu
  have lS : p.sends.length ≤ 1000 := SM.out.1
  have lR : p.routes.length ≤ 1000 := SM.out.2
  have hpos : 0 < p.sends.length := List.length_pos_iff.2 (postErr_ok HE.out).2.2.2.1
  have lw : ws.length ≤ 9223372036854775807 := by unfold maxLen at lw1; omega
  unfold leftL at hz hk
  obtain ⟨M, hM⟩ : ∃ M, m % 6 = M := ⟨_, rfl⟩
  rw [hM] at hz hk
  have hM5 : M ≤ 5 := by omega
  have hM6 : M ≤ 1000 := by omega
  have HM6 := Lib.hid hM
  have hsh := pkT_shape HE.out ws
  have hst := pkT_small HE.out ws
  have hlen := pkT_len p ws
  obtain ⟨t, ht⟩ : ∃ t, pkT p ws = t := ⟨_, rfl⟩
  rw [ht] at hsh hst hlen hz hk
  have HTt := Lib.hid ht
  have HtN := Lib.hid hlen
  have ST := Lib.hid hst
  have HPO := Lib.hid (playOk_of HE.out hsh)
  have hJ := play_ok HE.out hsh
  have nb := noteB_book HE.out hsh ws b (show M ≤ 8 by omega)
  have nl := noteB_len (playF p t) ws b M
  obtain ⟨J, hJe⟩ : ∃ J, playF p t = J := ⟨_, rfl⟩
  rw [hJe] at hJ nb nl hz hk
  obtain ⟨l, hl⟩ : ∃ l, noteB J ws b M = l := ⟨_, rfl⟩
  rw [hl] at nb nl hz hk
  have HJe := Lib.hid hJe
  have Hl := Lib.hid hl
  have HnJ := Lib.hid hJ.len
  have HJ := Lib.hid hJ
  have Hb := Lib.hid nb
  have HM := Lib.hid nl
  have hod : oddOut p l = oddF p l := by unfold oddOut; rw [if_pos nb]
  have hlk := left_keep HE.out l
  have hlw := left_which HE.out l o
  obtain ⟨O, hO⟩ : ∃ O, oddF p l = O := ⟨_, rfl⟩
  have hri := left_rise HE.out l hO
  have hmo := odd_more HE.out l en
  rw [hO] at hod hlk hlw hmo
  obtain ⟨nO, hnO⟩ : ∃ n, O.length = n := ⟨_, rfl⟩
  rw [hnO] at hmo
  rw [nl] at hri hlk hlw
  have Hri := Lib.hid hri
  have hOl : nO ≤ 100 := by
    have e := tryF_odd HE.out l
    have := tryF_len p l (2 ^ l.length)
    rw [e, hO, hnO, nl] at this
    omega
  have Hod := Lib.hid hod
  have HnO := Lib.hid hnO
  have hBl : orF O 0 < 2 ^ 10 := Nat.lt_of_lt_of_le (orF_lt O 0 hri.1 (Nat.two_pow_pos _)) (Nat.pow_le_pow_right (by omega) (by omega))
  obtain ⟨B, hB⟩ : ∃ B, orF O 0 = B := ⟨_, rfl⟩
  rw [hB] at hlk hBl
  have HBo := Lib.hid hB
  have kb1 := keep_book nb B
  have kb2 := keep_book nb o
  rw [nl] at kb1 kb2
  obtain ⟨K, hK⟩ : ∃ K, keepB l B M = K := ⟨_, rfl⟩
  obtain ⟨K2, hK2⟩ : ∃ K, keepB l o M = K := ⟨_, rfl⟩
  obtain ⟨T1, hT1⟩ : ∃ K, outB B M = K := ⟨_, rfl⟩
  obtain ⟨T2, hT2⟩ : ∃ K, outB o M = K := ⟨_, rfl⟩
  have hkl := keepB_len l B M
  have hkl2 := keepB_len l o M
  rw [hK] at kb1 hlk hkl
  rw [hK2] at kb2 hlw hz hkl2
  rw [hT2] at hlw
  have hT2l : T2.length ≤ M := by rw [← hT2]; exact outB_len o M
  obtain ⟨nK, hnK⟩ : ∃ n, K.length = n := ⟨_, rfl⟩
  obtain ⟨nK2, hnK2⟩ : ∃ n, K2.length = n := ⟨_, rfl⟩
  obtain ⟨nT1, hnT1⟩ : ∃ n, T1.length = n := ⟨_, rfl⟩
  obtain ⟨nT2, hnT2⟩ : ∃ n, T2.length = n := ⟨_, rfl⟩
  rw [hnK] at hkl
  rw [hnK2] at hkl2
  rw [hnT2] at hT2l
  have HK := Lib.hid hK
  have HK2 := Lib.hid hK2
  have HT1 := Lib.hid hT1
  have HT2 := Lib.hid hT2
  have HnK := Lib.hid hnK
  have HnK2 := Lib.hid hnK2
  have HnT1 := Lib.hid hnT1
  have HnT2 := Lib.hid hnT2
  have HX1 : Hid (explErr p K = 0) := Lib.hid (by unfold explErr; rw [if_neg (by simpa using kb1), if_pos hlk])
  have HX2 : Hid (explErr p K2 = 9) := Lib.hid (by unfold explErr; rw [if_neg (by simpa using kb2), hz]; rfl)
  obtain ⟨X1, hX1⟩ : ∃ X, explOut p K = X := ⟨_, rfl⟩
  obtain ⟨X2, hX2⟩ : ∃ X, explOut p K2 = X := ⟨_, rfl⟩
  obtain ⟨nX1, hnX1⟩ : ∃ n, X1.length = n := ⟨_, rfl⟩
  obtain ⟨nX2, hnX2⟩ : ∃ n, X2.length = n := ⟨_, rfl⟩
  have HXO1 := Lib.hid hX1
  have HXO2 := Lib.hid hX2
  have HnX1 := Lib.hid hnX1
  have HnX2 := Lib.hid hnX2
  obtain ⟨Y, hY⟩ : ∃ Y, l ++ [en] = Y := ⟨_, rfl⟩
  have hYl : Y.length = M + 1 := by rw [← hY]; simp [nl]
  rw [hY] at hk hmo
  have HY := Lib.hid hY
  have HYl := Lib.hid hYl
  have HE2 := Lib.hid hk
  have hod2 : oddOut p Y = oddF p Y := by unfold oddOut; rw [if_pos hk]
  obtain ⟨O2, hO2⟩ : ∃ O, oddF p Y = O := ⟨_, rfl⟩
  rw [hO2] at hod2 hmo
  obtain ⟨nO2, hnO2⟩ : ∃ n, O2.length = n := ⟨_, rfl⟩
  rw [hnO2] at hmo
  have Hod2 := Lib.hid hod2
  have HnO2 := Lib.hid hnO2
  have g1 : (nO : Int) ≤ (nO2 : Int) := by omega
  have g2 : (nO2 : Int) ≤ (nO : Int) + 1 := by omega
  have hwn : IntKind.i64.wrap ((nO : Int) + 1) = (nO : Int) + 1 := IntWalk.i64_in _ (by omega)
  clear hod2 hO2 hnO2
  have hwo : IntKind.i64.wrap (o : Int) = (o : Int) := IntWalk.i64_in _ (by omega)
  have ho10 : o < 1024 := by omega
  clear hT big hu lw0 lw1 hM hsh hst hlen ht hJ nb nl hJe hl hod hlk hlw hO hri hnO hB kb1 kb2 hK hK2 hT1 hT2 hnK hnK2 hnT1 hnT2 hX1 hX2 hnX1 hnX2 hY hYl hz hk hmo
  go_enter Try.func13, Try.ntmps13
  go_wp2_with fail
  go_at_call 44
  refine (ready_eq a c ar cr p _ true HT (hs.below (by (repeat (first | exact Below.refl _ _ | refine Below.alloc ?_ (by first | omega | (simp; done) | (simp; omega)) _ | refine Below.drew ?_ | refine Below.setCell ?_ (by first | omega | (simp; done) | (simp; omega)) _ | refine Below.trans ?_ (Below.mono (by assumption) (by first | omega | (simp; done) | (simp; omega))))))) (hr.below (by (repeat (first | exact Below.refl _ _ | refine Below.alloc ?_ (by first | omega | (simp; done) | (simp; omega)) _ | refine Below.drew ?_ | refine Below.setCell ?_ (by first | omega | (simp; done) | (simp; omega)) _ | refine Below.trans ?_ (Below.mono (by assumption) (by first | omega | (simp; done) | (simp; omega))))))) HB.out).mono ?_
  rintro e w1 ⟨rfl, b1⟩
  have t1 : Below w.heap.size w w1 := by (repeat (first | exact Below.refl _ _ | refine Below.alloc ?_ (by first | omega | (simp; done) | (simp; omega)) _ | refine Below.drew ?_ | refine Below.setCell ?_ (by first | omega | (simp; done) | (simp; omega)) _ | refine Below.trans ?_ (Below.mono (by assumption) (by first | omega | (simp; done) | (simp; omega)))))
  replace hs := hs.below t1
  replace hr := hr.below t1
  replace hw := hw.below t1
  have C0 : Cells w1 w.heap.size #[.slice a p.sends.length c, .slice ar p.routes.length cr, .int .i64 p.pat] 25 := ((Cells.new _ _ _).alloc _).below b1
  have C1 : Cells w1 (w.heap.size + 1) #[.int .i64 en.num, .int .i64 en.at_, .bool en.skip] 93 := (Cells.new' _ _ _ _ (by simp)).below b1
  have q0 := C0.cell 0
  have q1 := C0.cell 1
  have q2 := C0.cell 2
  have lB := C0.lt
  have m0 := C1.cell 0
  have m1 := C1.cell 1
  have m2 := C1.cell 2
  have lE := C1.lt
  simp at q0 q1 q2 m0 m1 m2
  clear C0 C1
  go_wp2_with fail
  (refine wp_region_seq 7 [] [7, 8] 180 [true, true, true, false, true, true, true] [TrV p.sends.length t] (by kernel_rfl) (by kernel_rfl) rfl (mono_cons (fun v w w' h hb => h.kept hb) mono_nil) ?_; simp only [pickOps, List.filterMap_cons, List.filterMap_nil, List.getElem?_toArray, List.getElem?_cons_succ, List.getElem?_cons_zero]; (repeat (refine wpFl_step _ rfl (fun w => (by go_simp; rfl)) ?_)); refine wpFl_nil ?_; simp only [maskOps, dummy, Act.put, List.setIfInBounds_toArray, List.set_cons_zero, List.set_cons_succ, List.take_succ_cons, List.take_zero, List.drop_succ_cons, List.drop_zero]; (repeat (refine wpQB_step (fun K hK => ?_); go_simp; first | (refine hK _ ?_; clear hK K) | (apply Exists.intro; refine ⟨fun ex => ?_, hK _ ?_⟩; (fail); clear hK K))); refine wpQB_nil ?_; simp only [relObl2, under, relEnd, and_true, List.nil_append, List.cons_append])
  refine ⟨fun e => ?_, fun e => ?_⟩
  · go_simp
    refine (pickedT_eq a c ar cr p aw ws cw _ t HTt (hs.below e.below) (hr.below e.below) (hw.below e.below) HU lw HE).mono ?_
    rintro _ _ ⟨⟨a2, c2, rfl, tA, nT⟩, hb⟩
    exact ⟨hb, a2, c2, rfl, tA⟩
  rintro v1 ⟨a2, c2, rfl, tA⟩
  simp only [Act.put, List.setIfInBounds_toArray, List.set_cons_zero, List.set_cons_succ]
  have b2 := e.below
  obtain ⟨w2, hwq⟩ : ∃ x : World, x = e.to := ⟨_, rfl⟩
  rw [← hwq] at b2 tA ⊢
  clear hwq e
  have j2 : Below w1.heap.size w1 w2 := by (repeat (first | exact Below.refl _ _ | refine Below.alloc ?_ (by first | omega | (simp; done) | (simp; omega)) _ | refine Below.drew ?_ | refine Below.setCell ?_ (by first | omega | (simp; done) | (simp; omega)) _ | refine Below.trans ?_ (Below.mono (by assumption) (by first | omega | (simp; done) | (simp; omega)))))
  have t2 : Below w.heap.size w w2 := t1.trans (j2.mono t1.size)
  replace hs := hs.below j2
  replace hr := hr.below j2
  replace hw := hw.below j2
  replace q0 := below_cell j2 q0
  replace q1 := below_cell j2 q1
  replace q2 := below_cell j2 q2
  replace m0 := below_cell j2 m0
  replace m1 := below_cell j2 m1
  replace m2 := below_cell j2 m2
  replace lB := Nat.lt_of_lt_of_le lB j2.size
  replace lE := Nat.lt_of_lt_of_le lE j2.size
  go_wp2_with fail
  go_at_call 49
  refine (notedB_eq a c ar cr p a2 t p.sends.length c2 aw ws cw m b _ J M l HM6 Hl HJe HtN HnJ hpos hs hr tA HPO hw HU lw hm hb lS HJ).mono ?_
  rintro e w3 ⟨⟨a3, c3, rfl, eL, nL⟩, b3⟩
  have j3 : Below w2.heap.size w2 w3 := by (repeat (first | exact Below.refl _ _ | refine Below.alloc ?_ (by first | omega | (simp; done) | (simp; omega)) _ | refine Below.drew ?_ | refine Below.setCell ?_ (by first | omega | (simp; done) | (simp; omega)) _ | refine Below.trans ?_ (Below.mono (by assumption) (by first | omega | (simp; done) | (simp; omega)))))
  have t3 : Below w.heap.size w w3 := t2.trans (j3.mono t2.size)
  replace hs := hs.below j3
  replace hr := hr.below j3
  replace hw := hw.below j3
  replace q0 := below_cell j3 q0
  replace q1 := below_cell j3 q1
  replace q2 := below_cell j3 q2
  replace m0 := below_cell j3 m0
  replace m1 := below_cell j3 m1
  replace m2 := below_cell j3 m2
  replace lB := Nat.lt_of_lt_of_le lB j3.size
  replace lE := Nat.lt_of_lt_of_le lE j3.size
  replace tA := tA.below j3
  clear tA hw
  go_wp2_with fail
  go_at_call 21
  refine (post_eq a c ar cr p _ hs hr SM na).mono ?_
  rintro e w4 ⟨⟨a4, c4, r4, d4, rfl, s4, o4⟩, b4⟩
  have j4 : Below w3.heap.size w3 w4 := by (repeat (first | exact Below.refl _ _ | refine Below.alloc ?_ (by first | omega | (simp; done) | (simp; omega)) _ | refine Below.drew ?_ | refine Below.setCell ?_ (by first | omega | (simp; done) | (simp; omega)) _ | refine Below.trans ?_ (Below.mono (by assumption) (by first | omega | (simp; done) | (simp; omega)))))
  have t4 : Below w.heap.size w w4 := t3.trans (j4.mono t3.size)
  replace hs := hs.below j4
  replace hr := hr.below j4
  replace q0 := below_cell j4 q0
  replace q1 := below_cell j4 q1
  replace q2 := below_cell j4 q2
  replace m0 := below_cell j4 m0
  replace m1 := below_cell j4 m1
  replace m2 := below_cell j4 m2
  replace lB := Nat.lt_of_lt_of_le lB j4.size
  replace lE := Nat.lt_of_lt_of_le lE j4.size
  replace eL := eL.below j4
  go_wp2_with fail
  go_at_call 41
  refine (entsM_eq a3 l M c3 HM _ eL hM6).mono ?_
  rintro e w5 ⟨⟨u4, v4, rfl, eB4⟩, b5⟩
  have j5 : Below w4.heap.size w4 w5 := by (repeat (first | exact Below.refl _ _ | refine Below.alloc ?_ (by first | omega | (simp; done) | (simp; omega)) _ | refine Below.drew ?_ | refine Below.setCell ?_ (by first | omega | (simp; done) | (simp; omega)) _ | refine Below.trans ?_ (Below.mono (by assumption) (by first | omega | (simp; done) | (simp; omega)))))
  have t5 : Below w.heap.size w w5 := t4.trans (j5.mono t4.size)
  replace hs := hs.below j5
  replace hr := hr.below j5
  replace q0 := below_cell j5 q0
  replace q1 := below_cell j5 q1
  replace q2 := below_cell j5 q2
  replace m0 := below_cell j5 m0
  replace m1 := below_cell j5 m1
  replace m2 := below_cell j5 m2
  replace lB := Nat.lt_of_lt_of_le lB j5.size
  replace lE := Nat.lt_of_lt_of_le lE j5.size
  replace eL := eL.below j5
  replace s4 := s4.below j5
  replace o4 := o4.below j5
  go_wp2_with fail
  go_at_call 40
  refine (oddM_eq a4 c4 r4 d4 p u4 l M v4 HM _ 0 O nO Hb Hod HnO s4 o4 SM eB4 hM6).mono ?_
  rintro e w6 ⟨⟨e4, f4, rfl, i4⟩, b6⟩
  have j6 : Below w5.heap.size w5 w6 := by (repeat (first | exact Below.refl _ _ | refine Below.alloc ?_ (by first | omega | (simp; done) | (simp; omega)) _ | refine Below.drew ?_ | refine Below.setCell ?_ (by first | omega | (simp; done) | (simp; omega)) _ | refine Below.trans ?_ (Below.mono (by assumption) (by first | omega | (simp; done) | (simp; omega)))))
  have t6 : Below w.heap.size w w6 := t5.trans (j6.mono t5.size)
  replace hs := hs.below j6
  replace hr := hr.below j6
  replace q0 := below_cell j6 q0
  replace q1 := below_cell j6 q1
  replace q2 := below_cell j6 q2
  replace m0 := below_cell j6 m0
  replace m1 := below_cell j6 m1
  replace m2 := below_cell j6 m2
  replace lB := Nat.lt_of_lt_of_le lB j6.size
  replace lE := Nat.lt_of_lt_of_le lE j6.size
  replace eL := eL.below j6
  replace s4 := s4.below j6
  replace o4 := o4.below j6
  replace eB4 := eB4.below j6
  clear s4 o4 eB4
  clear HTt HtN ST HPO HJe Hl HnJ HJ HM6 Hod Hb
  go_wp2_with fail
  go_loopw [16, 17] (fun x1 u wr => ∃ k : Nat, k ≤ nO ∧ u = .int .i64 k ∧ x1 = .int .i64 ((orF (O.take k) 0 : Nat) : Int) ∧ Below w6.heap.size w6 wr) (fun _ u _ => nO - (intOf u).toNat)
  case atStart => exact ⟨0, Nat.zero_le _, rfl, rfl, Below.refl _ _⟩
  case round =>
    obtain ⟨k, hk, rfl, rfl, hb6⟩ := hrel
    have z6 := hb6.size
    by_cases hkl : k < nO
    · have hkI : (k : Int) < (nO : Int) := by omega
      have hkO : k < O.length := by rw [HnO.out]; exact hkl
      have hX := Hri.out.1 _ (List.getElem_mem hkO)
      have hup := Hri.out.2
      have hot := orF_take O hkO 0
      have hbk : orF (O.take k) 0 < 2 ^ 10 := Nat.lt_of_lt_of_le (orF_lt (O.take k) 0 (fun x hx => Hri.out.1 x (List.mem_of_mem_take hx)) (Nat.two_pow_pos _)) (Nat.pow_le_pow_right (by omega) (show M ≤ 10 by omega))
      obtain ⟨g0, off0, rfl, hg0, s0⟩ := (i4.below hb6) k hkO
      replace s0 : wr.cell? ⟨g0, off0 + k, none⟩ = some (.int .i64 O[k]) := s0.trans (by simp [hkO])
      have hpv : ∀ j, j + 1 = k → ∃ y : Int, wr.cell? ⟨g0, off0 + j, none⟩ = some (.int .i64 y) ∧ y < O[k] := fun j hj => by
        subst hj
        have hj : j < O.length := by omega
        obtain ⟨g1, off1, hh, _, s1⟩ := (i4.below hb6) j hj
        cases hh
        exact ⟨O[j], s1.trans (by simp [hj]), hup j hkO⟩
      obtain ⟨x, hx⟩ : ∃ x, O[k] = x := ⟨_, rfl⟩
      rw [hx] at hX s0 hot hpv
      have hq : x.toNat ≤ 4 := by omega
      have n0 : ¬ (x < 0) := by omega
      have n1 : ¬ ((M : Int) ≤ x) := by omega
      have e0 : decide (x < 0) = false := decide_eq_false n0
      have e1 : decide ((M : Int) ≤ x) = false := decide_eq_false n1
      have hx0 : 0 ≤ x := hX.1
      have hcu : IntKind.u64.wrap x = x := by simp [IntKind.wrap, IntKind.bits, IntKind.signed]; omega
      have hsl := shl_small (show x.toNat ≤ 8 by omega)
      have h2q : 2 ^ x.toNat < 2 ^ 10 := Nat.pow_lt_pow_right (by omega) (by omega)
      have hor := or_small hbk h2q
      rw [← hot] at hor
      obtain ⟨S, hS⟩ : ∃ S, orF (O.take k) 0 = S := ⟨_, rfl⟩
      obtain ⟨S2, hS2⟩ : ∃ S, orF (O.take (k + 1)) 0 = S := ⟨_, rfl⟩
      obtain ⟨Q, hQ⟩ : ∃ Q : Nat, 2 ^ x.toNat = Q := ⟨_, rfl⟩
      rw [hQ] at hsl hor
      rw [hS] at hor ⊢
      rw [hS2] at hor
      have HS2 := Lib.hid hS2
      clear hS hS2 hQ hbk hot h2q hx hup hX
      rcases Nat.eq_zero_or_pos k with rfl | hkp
      · clear hpv
        simp only [Nat.add_zero] at s0
        go_wp2
        (refine wp_region_ext 30 (by kernel_rfl) (by kernel_rfl) ?_; simp only [List.take_succ_cons, List.take_zero, List.drop_succ_cons, List.drop_zero]; (repeat (go_big_quiet_step ((fail)))); refine wpQuiet_nil ?_; rintro _ ⟨ex, rfl⟩; have hex := ex.below; have hexz := ex.size; (try simp at hexz); (try (have hy0 : w.heap.size < ex.to.heap.size := by omega)); (try (have hy1 : w.heap.size + 1 < ex.to.heap.size := by omega)); (try (have hy2 : w.heap.size + 2 < ex.to.heap.size := by omega)))
        have b7 := ex.below
        obtain ⟨W7, hW7⟩ : ∃ x : World, x = ex.to := ⟨_, rfl⟩
        rw [← hW7] at b7 ⊢
        clear hW7
        have c7' := hb6.trans (b7.mono z6)
        replace s0 := below_cell b7 s0
        have hg7 := cell_ltK s0
        go_wp2
        go_roundw
        case rel => exact ⟨0 + 1, by omega, by go_num, by rw [HS2.out], c7'⟩
        case measure => simp [intOf]; omega
      · obtain ⟨j, hj⟩ : ∃ j, j + 1 = k := ⟨k - 1, by omega⟩
        obtain ⟨y, s1, hy⟩ := hpv j hj
        clear hpv
        have hk0 : (0 : Int) < (k : Int) := by omega
        have hw1 : IntKind.i64.wrap ((k : Int) - 1) = (j : Int) := by rw [IntWalk.i64_in _ (by omega)]; omega
        have hjI : (j : Int) < (nO : Int) := by omega
        have n2 : ¬ (x ≤ y) := by omega
        have e2 : decide (x ≤ y) = false := decide_eq_false n2
        go_wp2
        (refine wp_region_ext 30 (by kernel_rfl) (by kernel_rfl) ?_; simp only [List.take_succ_cons, List.take_zero, List.drop_succ_cons, List.drop_zero]; (repeat (go_big_quiet_step ((fail)))); refine wpQuiet_nil ?_; rintro _ ⟨ex, rfl⟩; have hex := ex.below; have hexz := ex.size; (try simp at hexz); (try (have hy0 : w.heap.size < ex.to.heap.size := by omega)); (try (have hy1 : w.heap.size + 1 < ex.to.heap.size := by omega)); (try (have hy2 : w.heap.size + 2 < ex.to.heap.size := by omega)))
        have b7 := ex.below
        obtain ⟨W7, hW7⟩ : ∃ x : World, x = ex.to := ⟨_, rfl⟩
        rw [← hW7] at b7 ⊢
        clear hW7
        have c7' := hb6.trans (b7.mono z6)
        replace s0 := below_cell b7 s0
        have hg7 := cell_ltK s0
        go_wp2
        go_roundw
        case rel => exact ⟨k + 1, by omega, by go_num, by rw [HS2.out], c7'⟩
        case measure => simp [intOf]; omega
    · have hkI : ¬ ((k : Int) < (nO : Int)) := by omega
      obtain rfl : k = nO := by omega
      rw [show O.take k = O by rw [← HnO.out, List.take_length], HBo.out]
      clear hk hkl
      have b7 := hb6
      obtain ⟨w7, hwq⟩ : ∃ x : World, x = wr := ⟨_, rfl⟩
      subst hwq
      have j7 : Below w6.heap.size w6 w7 := by (repeat (first | exact Below.refl _ _ | refine Below.alloc ?_ (by first | omega | (simp; done) | (simp; omega)) _ | refine Below.drew ?_ | refine Below.setCell ?_ (by first | omega | (simp; done) | (simp; omega)) _ | refine Below.trans ?_ (Below.mono (by assumption) (by first | omega | (simp; done) | (simp; omega)))))
      have t7 : Below w.heap.size w w7 := t6.trans (j7.mono t6.size)
      replace hs := hs.below j7
      replace hr := hr.below j7
      replace q0 := below_cell j7 q0
      replace q1 := below_cell j7 q1
      replace q2 := below_cell j7 q2
      replace m0 := below_cell j7 m0
      replace m1 := below_cell j7 m1
      replace m2 := below_cell j7 m2
      replace lB := Nat.lt_of_lt_of_le lB j7.size
      replace lE := Nat.lt_of_lt_of_le lE j7.size
      replace eL := eL.below j7
      replace i4 := i4.below j7
      have r7 : Below w6.heap.size w6 w7 := j7
      go_wp2_with fail
      go_at_call 50
      refine (someM_eq a3 l M c3 HM B K T1 nK nT1 HK HT1 HnK HnT1 _ eL (by omega) hBl).mono ?_
      rintro e w8 ⟨⟨a5, c5, x5, y5, rfl, eK, iT, nT⟩, b8⟩
      have j8 : Below w7.heap.size w7 w8 := by (repeat (first | exact Below.refl _ _ | refine Below.alloc ?_ (by first | omega | (simp; done) | (simp; omega)) _ | refine Below.drew ?_ | refine Below.setCell ?_ (by first | omega | (simp; done) | (simp; omega)) _ | refine Below.trans ?_ (Below.mono (by assumption) (by first | omega | (simp; done) | (simp; omega)))))
      have t8 : Below w.heap.size w w8 := t7.trans (j8.mono t7.size)
      have r8 : Below w6.heap.size w6 w8 := r7.trans (j8.mono r7.size)
      replace hs := hs.below j8
      replace hr := hr.below j8
      replace q0 := below_cell j8 q0
      replace q1 := below_cell j8 q1
      replace q2 := below_cell j8 q2
      replace m0 := below_cell j8 m0
      replace m1 := below_cell j8 m1
      replace m2 := below_cell j8 m2
      replace lB := Nat.lt_of_lt_of_le lB j8.size
      replace lE := Nat.lt_of_lt_of_le lE j8.size
      replace eL := eL.below j8
      replace i4 := i4.below j8
      clear iT nT
      go_wp2_with fail
      go_at_call 50
      refine (someM_eq a3 l M c3 HM o K2 T2 nK2 nT2 HK2 HT2 HnK2 HnT2 _ eL (by omega) ho10).mono ?_
      rintro e w9 ⟨⟨a6, c6, x6, y6, rfl, eK2, iT2, nT2'⟩, b9⟩
      have j9 : Below w8.heap.size w8 w9 := by (repeat (first | exact Below.refl _ _ | refine Below.alloc ?_ (by first | omega | (simp; done) | (simp; omega)) _ | refine Below.drew ?_ | refine Below.setCell ?_ (by first | omega | (simp; done) | (simp; omega)) _ | refine Below.trans ?_ (Below.mono (by assumption) (by first | omega | (simp; done) | (simp; omega)))))
      have t9 : Below w.heap.size w w9 := t8.trans (j9.mono t8.size)
      have r9 : Below w6.heap.size w6 w9 := r8.trans (j9.mono r8.size)
      replace hs := hs.below j9
      replace hr := hr.below j9
      replace q0 := below_cell j9 q0
      replace q1 := below_cell j9 q1
      replace q2 := below_cell j9 q2
      replace m0 := below_cell j9 m0
      replace m1 := below_cell j9 m1
      replace m2 := below_cell j9 m2
      replace lB := Nat.lt_of_lt_of_le lB j9.size
      replace lE := Nat.lt_of_lt_of_le lE j9.size
      replace eL := eL.below j9
      replace i4 := i4.below j9
      replace eK := eK.below j9
      go_wp2_with fail
      go_at_call 21
      refine (post_eq a c ar cr p _ hs hr SM na).mono ?_
      rintro e w10 ⟨⟨a7, c7, r7, d7, rfl, s7, o7⟩, b10⟩
      have j10 : Below w9.heap.size w9 w10 := by (repeat (first | exact Below.refl _ _ | refine Below.alloc ?_ (by first | omega | (simp; done) | (simp; omega)) _ | refine Below.drew ?_ | refine Below.setCell ?_ (by first | omega | (simp; done) | (simp; omega)) _ | refine Below.trans ?_ (Below.mono (by assumption) (by first | omega | (simp; done) | (simp; omega)))))
      have t10 : Below w.heap.size w w10 := t9.trans (j10.mono t9.size)
      have r10 : Below w6.heap.size w6 w10 := r9.trans (j10.mono r9.size)
      replace hs := hs.below j10
      replace hr := hr.below j10
      replace q0 := below_cell j10 q0
      replace q1 := below_cell j10 q1
      replace q2 := below_cell j10 q2
      replace m0 := below_cell j10 m0
      replace m1 := below_cell j10 m1
      replace m2 := below_cell j10 m2
      replace lB := Nat.lt_of_lt_of_le lB j10.size
      replace lE := Nat.lt_of_lt_of_le lE j10.size
      replace eL := eL.below j10
      replace i4 := i4.below j10
      replace eK := eK.below j10
      replace eK2 := eK2.below j10
      replace iT2 := iT2.below j10
      go_wp2_with fail
      go_at_call 41
      refine (entsM_eq a5 K nK c5 HnK _ eK (by omega)).mono ?_
      rintro e w11 ⟨⟨u7, v7, rfl, eB7⟩, b11⟩
      have j11 : Below w10.heap.size w10 w11 := by (repeat (first | exact Below.refl _ _ | refine Below.alloc ?_ (by first | omega | (simp; done) | (simp; omega)) _ | refine Below.drew ?_ | refine Below.setCell ?_ (by first | omega | (simp; done) | (simp; omega)) _ | refine Below.trans ?_ (Below.mono (by assumption) (by first | omega | (simp; done) | (simp; omega)))))
      have t11 : Below w.heap.size w w11 := t10.trans (j11.mono t10.size)
      have r11 : Below w6.heap.size w6 w11 := r10.trans (j11.mono r10.size)
      replace hs := hs.below j11
      replace hr := hr.below j11
      replace q0 := below_cell j11 q0
      replace q1 := below_cell j11 q1
      replace q2 := below_cell j11 q2
      replace m0 := below_cell j11 m0
      replace m1 := below_cell j11 m1
      replace m2 := below_cell j11 m2
      replace lB := Nat.lt_of_lt_of_le lB j11.size
      replace lE := Nat.lt_of_lt_of_le lE j11.size
      replace eL := eL.below j11
      replace i4 := i4.below j11
      replace eK := eK.below j11
      replace eK2 := eK2.below j11
      replace iT2 := iT2.below j11
      replace s7 := s7.below j11
      replace o7 := o7.below j11
      go_wp2_with fail
      go_at_call 48
      refine (explM_eq a7 c7 r7 d7 p u7 K nK v7 HnK _ 0 X1 nX1 HX1 HXO1 HnX1 s7 o7 SM eB7 (by omega)).mono ?_
      rintro e w12 ⟨⟨e7, f7, rfl, tX, nx7⟩, b12⟩
      have j12 : Below w11.heap.size w11 w12 := by (repeat (first | exact Below.refl _ _ | refine Below.alloc ?_ (by first | omega | (simp; done) | (simp; omega)) _ | refine Below.drew ?_ | refine Below.setCell ?_ (by first | omega | (simp; done) | (simp; omega)) _ | refine Below.trans ?_ (Below.mono (by assumption) (by first | omega | (simp; done) | (simp; omega)))))
      have t12 : Below w.heap.size w w12 := t11.trans (j12.mono t11.size)
      have r12 : Below w6.heap.size w6 w12 := r11.trans (j12.mono r11.size)
      replace hs := hs.below j12
      replace hr := hr.below j12
      replace q0 := below_cell j12 q0
      replace q1 := below_cell j12 q1
      replace q2 := below_cell j12 q2
      replace m0 := below_cell j12 m0
      replace m1 := below_cell j12 m1
      replace m2 := below_cell j12 m2
      replace lB := Nat.lt_of_lt_of_le lB j12.size
      replace lE := Nat.lt_of_lt_of_le lE j12.size
      replace eL := eL.below j12
      replace i4 := i4.below j12
      replace eK := eK.below j12
      replace eK2 := eK2.below j12
      replace iT2 := iT2.below j12
      replace s7 := s7.below j12
      replace o7 := o7.below j12
      replace eB7 := eB7.below j12
      clear tX nx7
      clear s7 o7 eB7 eK
      go_wp2_with fail
      go_at_call 21
      refine (post_eq a c ar cr p _ hs hr SM na).mono ?_
      rintro e w13 ⟨⟨a8, c8, r8, d8, rfl, s8, o8⟩, b13⟩
      have j13 : Below w12.heap.size w12 w13 := by (repeat (first | exact Below.refl _ _ | refine Below.alloc ?_ (by first | omega | (simp; done) | (simp; omega)) _ | refine Below.drew ?_ | refine Below.setCell ?_ (by first | omega | (simp; done) | (simp; omega)) _ | refine Below.trans ?_ (Below.mono (by assumption) (by first | omega | (simp; done) | (simp; omega)))))
      have t13 : Below w.heap.size w w13 := t12.trans (j13.mono t12.size)
      have r13 : Below w6.heap.size w6 w13 := r12.trans (j13.mono r12.size)
      replace hs := hs.below j13
      replace hr := hr.below j13
      replace q0 := below_cell j13 q0
      replace q1 := below_cell j13 q1
      replace q2 := below_cell j13 q2
      replace m0 := below_cell j13 m0
      replace m1 := below_cell j13 m1
      replace m2 := below_cell j13 m2
      replace lB := Nat.lt_of_lt_of_le lB j13.size
      replace lE := Nat.lt_of_lt_of_le lE j13.size
      replace eL := eL.below j13
      replace i4 := i4.below j13
      replace eK2 := eK2.below j13
      replace iT2 := iT2.below j13
      go_wp2_with fail
      go_at_call 41
      refine (entsM_eq a6 K2 nK2 c6 HnK2 _ eK2 (by omega)).mono ?_
      rintro e w14 ⟨⟨u8, v8, rfl, eB8⟩, b14⟩
      have j14 : Below w13.heap.size w13 w14 := by (repeat (first | exact Below.refl _ _ | refine Below.alloc ?_ (by first | omega | (simp; done) | (simp; omega)) _ | refine Below.drew ?_ | refine Below.setCell ?_ (by first | omega | (simp; done) | (simp; omega)) _ | refine Below.trans ?_ (Below.mono (by assumption) (by first | omega | (simp; done) | (simp; omega)))))
      have t14 : Below w.heap.size w w14 := t13.trans (j14.mono t13.size)
      have r14 : Below w6.heap.size w6 w14 := r13.trans (j14.mono r13.size)
      replace hs := hs.below j14
      replace hr := hr.below j14
      replace q0 := below_cell j14 q0
      replace q1 := below_cell j14 q1
      replace q2 := below_cell j14 q2
      replace m0 := below_cell j14 m0
      replace m1 := below_cell j14 m1
      replace m2 := below_cell j14 m2
      replace lB := Nat.lt_of_lt_of_le lB j14.size
      replace lE := Nat.lt_of_lt_of_le lE j14.size
      replace eL := eL.below j14
      replace i4 := i4.below j14
      replace eK2 := eK2.below j14
      replace iT2 := iT2.below j14
      replace s8 := s8.below j14
      replace o8 := o8.below j14
      go_wp2_with fail
      go_at_call 48
      refine (explM_eq a8 c8 r8 d8 p u8 K2 nK2 v8 HnK2 _ 9 X2 nX2 HX2 HXO2 HnX2 s8 o8 SM eB8 (by omega)).mono ?_
      rintro e w15 ⟨⟨e8, f8, rfl, tX, nx8⟩, b15⟩
      have j15 : Below w14.heap.size w14 w15 := by (repeat (first | exact Below.refl _ _ | refine Below.alloc ?_ (by first | omega | (simp; done) | (simp; omega)) _ | refine Below.drew ?_ | refine Below.setCell ?_ (by first | omega | (simp; done) | (simp; omega)) _ | refine Below.trans ?_ (Below.mono (by assumption) (by first | omega | (simp; done) | (simp; omega)))))
      have t15 : Below w.heap.size w w15 := t14.trans (j15.mono t14.size)
      have r15 : Below w6.heap.size w6 w15 := r14.trans (j15.mono r14.size)
      replace hs := hs.below j15
      replace hr := hr.below j15
      replace q0 := below_cell j15 q0
      replace q1 := below_cell j15 q1
      replace q2 := below_cell j15 q2
      replace m0 := below_cell j15 m0
      replace m1 := below_cell j15 m1
      replace m2 := below_cell j15 m2
      replace lB := Nat.lt_of_lt_of_le lB j15.size
      replace lE := Nat.lt_of_lt_of_le lE j15.size
      replace eL := eL.below j15
      replace i4 := i4.below j15
      replace eK2 := eK2.below j15
      replace iT2 := iT2.below j15
      replace s8 := s8.below j15
      replace o8 := o8.below j15
      replace eB8 := eB8.below j15
      clear tX nx8
      clear s8 o8 eB8 eK2
      clear iT2 i4
      have hal : a3 = none → M = 0 ∧ c3 = 0 := fun h => by
        refine ⟨?_, nL h⟩
        subst h
        rcases Nat.eq_zero_or_pos M with e | e
        · exact e
        · obtain ⟨b, off, hh, _⟩ := eL 0 (by rw [HM.out]; exact e)
          cases hh
      go_wp2_with fail
      (refine wp_region_seq 5 [] [5, 6] 180 [false, true, false, true, false] [LitV w15.heap.size 0 #[] 93, OwnV 93 3 w15.heap.size M (flatE l), LitV w15.heap.size 1 #[.int .i64 en.num, .int .i64 en.at_, .bool en.skip] 93] (by kernel_rfl) (by kernel_rfl) rfl (mono_cons (fun v w w' h hb => h.kept hb) (mono_cons (fun v w w' h hb => h.kept hb) (mono_cons (fun v w w' h hb => h.kept hb) mono_nil))) ?_; simp only [pickOps, List.filterMap_cons, List.filterMap_nil, List.getElem?_toArray, List.getElem?_cons_succ, List.getElem?_cons_zero]; (repeat (refine wpFl_step _ rfl (fun w => (by go_simp; rfl)) ?_)); refine wpFl_nil ?_; simp only [maskOps, dummy, Act.put, List.setIfInBounds_toArray, List.set_cons_zero, List.set_cons_succ, List.take_succ_cons, List.take_zero, List.drop_succ_cons, List.drop_zero]; (repeat (refine wpQB_step (fun K hK => ?_); go_simp; first | (refine hK _ ?_; clear hK K) | (apply Exists.intro; refine ⟨fun ex => ?_, hK _ ?_⟩; (fail); clear hK K))); refine wpQB_nil ?_; simp only [relObl2, under, relEnd, and_true, List.nil_append, List.cons_append])
      refine ⟨⟨fun e => ?_, fun e v1 h1 => ?_, fun e v1 h1 v2 h2 => ?_⟩, fun e => ?_⟩
      · go_simp
        exact ⟨(Below.refl _ _).alloc (Nat.le_refl _) _, e.to.heap.size, rfl, e.size, Cells.new _ _ _⟩
      · obtain ⟨g, rfl, hg, hc⟩ := h1 (by kernel_rfl)
        exact gives_app0 el_rentries e.to w15.heap.size g _ _ rfl rfl hc hg a3 M c3 (flatE l) rfl hal (by rw [flatE_len, HM.out]) (SrcAt.ents (eL.below e.below)) (by unfold maxLen; omega) (by omega)
      · go_simp
        exact ⟨(Below.refl _ _).alloc (Nat.le_refl _) _, e.to.heap.size, rfl, e.size, Cells.new _ _ _⟩
      rintro v1 - v2 ⟨a9, c9, rfl, o9⟩ v3 ⟨g3, rfl, hg3, hc3⟩
      simp only [Act.put, List.setIfInBounds_toArray, List.set_cons_zero, List.set_cons_succ]
      have heb := e.below
      obtain ⟨x9, hx9⟩ : ∃ x : World, x = e.to := ⟨_, rfl⟩
      rw [← hx9] at heb hc3 o9 ⊢
      clear hx9 e
      have hez := heb.size
      refine wpList_app el_rentries rfl _ _ rfl w15.heap.size a9 M c9 _ rfl o9 (some ⟨g3, 0, none⟩) 1 1 [.int .i64 en.num, .int .i64 en.at_, .bool en.skip] rfl (fun h => by cases h) rfl hc3.src (fun u hu => by simp at hu; rcases hu with rfl | rfl | rfl <;> rfl) (by unfold maxLen; omega) (by omega) (by omega) ?_
      intro a9 c9 w16 o7 b7
      have b16 := heb.trans b7
      have eY : EntsAt w16 a9 Y := by
        rw [← HY.out]
        exact OwnL.ents (by rw [flatE_snoc]; exact o7)
      clear o7 b7 heb hez hc3 hg3 o9 hal
      have j16 : Below w15.heap.size w15 w16 := by (repeat (first | exact Below.refl _ _ | refine Below.alloc ?_ (by first | omega | (simp; done) | (simp; omega)) _ | refine Below.drew ?_ | refine Below.setCell ?_ (by first | omega | (simp; done) | (simp; omega)) _ | refine Below.trans ?_ (Below.mono (by assumption) (by first | omega | (simp; done) | (simp; omega)))))
      have t16 : Below w.heap.size w w16 := t15.trans (j16.mono t15.size)
      have r16 : Below w6.heap.size w6 w16 := r15.trans (j16.mono r15.size)
      replace hs := hs.below j16
      replace hr := hr.below j16
      replace q0 := below_cell j16 q0
      replace q1 := below_cell j16 q1
      replace q2 := below_cell j16 q2
      replace m0 := below_cell j16 m0
      replace m1 := below_cell j16 m1
      replace m2 := below_cell j16 m2
      replace lB := Nat.lt_of_lt_of_le lB j16.size
      replace lE := Nat.lt_of_lt_of_le lE j16.size
      replace eL := eL.below j16
      clear eL
      go_wp2_with fail
      go_at_call 42
      refine (bookM_eq a c ar cr p a9 Y (M + 1) c9 HYl _ 0 HE2 hs hr SM eY (by omega)).mono ?_
      rintro e w17 ⟨rfl, b17⟩
      have j17 : Below w16.heap.size w16 w17 := by (repeat (first | exact Below.refl _ _ | refine Below.alloc ?_ (by first | omega | (simp; done) | (simp; omega)) _ | refine Below.drew ?_ | refine Below.setCell ?_ (by first | omega | (simp; done) | (simp; omega)) _ | refine Below.trans ?_ (Below.mono (by assumption) (by first | omega | (simp; done) | (simp; omega)))))
      have t17 : Below w.heap.size w w17 := t16.trans (j17.mono t16.size)
      have r17 : Below w6.heap.size w6 w17 := r16.trans (j17.mono r16.size)
      replace hs := hs.below j17
      replace hr := hr.below j17
      replace q0 := below_cell j17 q0
      replace q1 := below_cell j17 q1
      replace q2 := below_cell j17 q2
      replace m0 := below_cell j17 m0
      replace m1 := below_cell j17 m1
      replace m2 := below_cell j17 m2
      replace lB := Nat.lt_of_lt_of_le lB j17.size
      replace lE := Nat.lt_of_lt_of_le lE j17.size
      replace eY := eY.below j17
      go_wp2_with fail
      go_at_call 21
      refine (post_eq a c ar cr p _ hs hr SM na).mono ?_
      rintro e w18 ⟨⟨a10, c10, r10, d10, rfl, s10, o10⟩, b18⟩
      have j18 : Below w17.heap.size w17 w18 := by (repeat (first | exact Below.refl _ _ | refine Below.alloc ?_ (by first | omega | (simp; done) | (simp; omega)) _ | refine Below.drew ?_ | refine Below.setCell ?_ (by first | omega | (simp; done) | (simp; omega)) _ | refine Below.trans ?_ (Below.mono (by assumption) (by first | omega | (simp; done) | (simp; omega)))))
      have t18 : Below w.heap.size w w18 := t17.trans (j18.mono t17.size)
      have r18 : Below w6.heap.size w6 w18 := r17.trans (j18.mono r17.size)
      replace hs := hs.below j18
      replace hr := hr.below j18
      replace q0 := below_cell j18 q0
      replace q1 := below_cell j18 q1
      replace q2 := below_cell j18 q2
      replace m0 := below_cell j18 m0
      replace m1 := below_cell j18 m1
      replace m2 := below_cell j18 m2
      replace lB := Nat.lt_of_lt_of_le lB j18.size
      replace lE := Nat.lt_of_lt_of_le lE j18.size
      replace eY := eY.below j18
      go_wp2_with fail
      go_at_call 41
      refine (entsM_eq a9 Y (M + 1) c9 HYl _ eY (by omega)).mono ?_
      rintro e w19 ⟨⟨u10, v10, rfl, eB10⟩, b19⟩
      have j19 : Below w18.heap.size w18 w19 := by (repeat (first | exact Below.refl _ _ | refine Below.alloc ?_ (by first | omega | (simp; done) | (simp; omega)) _ | refine Below.drew ?_ | refine Below.setCell ?_ (by first | omega | (simp; done) | (simp; omega)) _ | refine Below.trans ?_ (Below.mono (by assumption) (by first | omega | (simp; done) | (simp; omega)))))
      have t19 : Below w.heap.size w w19 := t18.trans (j19.mono t18.size)
      have r19 : Below w6.heap.size w6 w19 := r18.trans (j19.mono r18.size)
      replace hs := hs.below j19
      replace hr := hr.below j19
      replace q0 := below_cell j19 q0
      replace q1 := below_cell j19 q1
      replace q2 := below_cell j19 q2
      replace m0 := below_cell j19 m0
      replace m1 := below_cell j19 m1
      replace m2 := below_cell j19 m2
      replace lB := Nat.lt_of_lt_of_le lB j19.size
      replace lE := Nat.lt_of_lt_of_le lE j19.size
      replace eY := eY.below j19
      replace s10 := s10.below j19
      replace o10 := o10.below j19
      go_wp2_with fail
      go_at_call 40
      refine (oddM_eq a10 c10 r10 d10 p u10 Y (M + 1) v10 HYl _ 0 O2 nO2 HE2 Hod2 HnO2 s10 o10 SM eB10 (by omega)).mono ?_
      rintro e w20 ⟨⟨e10, f10, rfl, i10⟩, b20⟩
      have j20 : Below w19.heap.size w19 w20 := by (repeat (first | exact Below.refl _ _ | refine Below.alloc ?_ (by first | omega | (simp; done) | (simp; omega)) _ | refine Below.drew ?_ | refine Below.setCell ?_ (by first | omega | (simp; done) | (simp; omega)) _ | refine Below.trans ?_ (Below.mono (by assumption) (by first | omega | (simp; done) | (simp; omega)))))
      have t20 : Below w.heap.size w w20 := t19.trans (j20.mono t19.size)
      have r20 : Below w6.heap.size w6 w20 := r19.trans (j20.mono r19.size)
      replace hs := hs.below j20
      replace hr := hr.below j20
      replace q0 := below_cell j20 q0
      replace q1 := below_cell j20 q1
      replace q2 := below_cell j20 q2
      replace m0 := below_cell j20 m0
      replace m1 := below_cell j20 m1
      replace m2 := below_cell j20 m2
      replace lB := Nat.lt_of_lt_of_le lB j20.size
      replace lE := Nat.lt_of_lt_of_le lE j20.size
      replace eY := eY.below j20
      replace s10 := s10.below j20
      replace o10 := o10.below j20
      replace eB10 := eB10.below j20
      clear s10 o10 eB10 eY
      clear i10
      go_wp2_with fail
      go_at_call 19
      refine (awake_any _).mono ?_
      rintro e w21 ⟨rfl, b21⟩
      have j21 : Below w20.heap.size w20 w21 := by (repeat (first | exact Below.refl _ _ | refine Below.alloc ?_ (by first | omega | (simp; done) | (simp; omega)) _ | refine Below.drew ?_ | refine Below.setCell ?_ (by first | omega | (simp; done) | (simp; omega)) _ | refine Below.trans ?_ (Below.mono (by assumption) (by first | omega | (simp; done) | (simp; omega)))))
      have t21 : Below w.heap.size w w21 := t20.trans (j21.mono t20.size)
      have r21 : Below w6.heap.size w6 w21 := r20.trans (j21.mono r20.size)
      replace hs := hs.below j21
      replace hr := hr.below j21
      replace q0 := below_cell j21 q0
      replace q1 := below_cell j21 q1
      replace q2 := below_cell j21 q2
      replace m0 := below_cell j21 m0
      replace m1 := below_cell j21 m1
      replace m2 := below_cell j21 m2
      replace lB := Nat.lt_of_lt_of_le lB j21.size
      replace lE := Nat.lt_of_lt_of_le lE j21.size
      go_wp2_with fail
      go_ret
      exact ⟨rfl, t21⟩

set_option maxRecDepth 100000 in
set_option maxHeartbeats 8000000 in
theorem left_a4 (a : Option Addr) (c : Nat) (ar : Option Addr) (cr : Nat) (p : Post) (aw : Option Addr) (ws : List Int) (cw : Nat) (m b o : Nat) (en : Ent) (w : World) (hs : IntsAt w a p.sends) (hr : RoutesAt w ar p.routes) (na : a = none → c = 0) (big : PostBig p) (hw : U16At w aw ws) (_ : aw = none → cw = 0) (lw0 : ws.length ≤ cw) (lw1 : cw ≤ maxLen) (hu : U16s ws) (hm : m ≤ 255) (hb : b ≤ 255) (ho : o ≤ 255) (hT : readyB p = true) (hz : explB p (keepB (leftL p ws m b) o (m % 6)) = true) (hk : bookErr p (leftL p ws m b ++ [en]) ≠ 0) :
    Calls Try.prog 13 #[.agg #[.slice a p.sends.length c, .slice ar p.routes.length cr, .int .i64 p.pat], .slice aw ws.length cw, .int .u8 (m : Int), .int .u8 (b : Int), .int .u8 (o : Int), .agg #[.int .i64 en.num, .int .i64 en.at_, .bool en.skip]] w fun e w' => e = .returned (.bool true) ∧ Below w.heap.size w w' := by

  have HB := Lib.hid big
  have HT := Lib.hid hT
  have SM := Lib.hid (ready_small hT).1
  have HE := Lib.hid (ready_small hT).2
  have HU := Lib.hid hu
  have lS : p.sends.length ≤ 1000 := SM.out.1
  have lR : p.routes.length ≤ 1000 := SM.out.2
  have hpos : 0 < p.sends.length := List.length_pos_iff.2 (postErr_ok HE.out).2.2.2.1
  have lw : ws.length ≤ 9223372036854775807 := by unfold maxLen at lw1; omega
  unfold leftL at hz hk
  obtain ⟨M, hM⟩ : ∃ M, m % 6 = M := ⟨_, rfl⟩
  rw [hM] at hz hk
  have hM5 : M ≤ 5 := by omega
  have hM6 : M ≤ 1000 := by omega
  have HM6 := Lib.hid hM
  have hsh := pkT_shape HE.out ws
  have hst := pkT_small HE.out ws
  have hlen := pkT_len p ws
  obtain ⟨t, ht⟩ : ∃ t, pkT p ws = t := ⟨_, rfl⟩
  rw [ht] at hsh hst hlen hz hk
  have HTt := Lib.hid ht
  have HtN := Lib.hid hlen
  have ST := Lib.hid hst
  have HPO := Lib.hid (playOk_of HE.out hsh)
  have hJ := play_ok HE.out hsh
  have nb := noteB_book HE.out hsh ws b (show M ≤ 8 by omega)
  have nl := noteB_len (playF p t) ws b M
  obtain ⟨J, hJe⟩ : ∃ J, playF p t = J := ⟨_, rfl⟩
  rw [hJe] at hJ nb nl hz hk
  obtain ⟨l, hl⟩ : ∃ l, noteB J ws b M = l := ⟨_, rfl⟩
  rw [hl] at nb nl hz hk
  have HJe := Lib.hid hJe
  have Hl := Lib.hid hl
  have HnJ := Lib.hid hJ.len
  have HJ := Lib.hid hJ
  have Hb := Lib.hid nb
  have HM := Lib.hid nl
  have hod : oddOut p l = oddF p l := by unfold oddOut; rw [if_pos nb]
  have hlk := left_keep HE.out l
  have hlw := left_which HE.out l o
  obtain ⟨O, hO⟩ : ∃ O, oddF p l = O := ⟨_, rfl⟩
  have hri := left_rise HE.out l hO
  have hmo := odd_more HE.out l en
  rw [hO] at hod hlk hlw hmo
  obtain ⟨nO, hnO⟩ : ∃ n, O.length = n := ⟨_, rfl⟩
  rw [hnO] at hmo
  rw [nl] at hri hlk hlw
  have Hri := Lib.hid hri
  have hOl : nO ≤ 100 := by
    have e := tryF_odd HE.out l
    have := tryF_len p l (2 ^ l.length)
    rw [e, hO, hnO, nl] at this
    omega
  have Hod := Lib.hid hod
  have HnO := Lib.hid hnO
  have hBl : orF O 0 < 2 ^ 10 := Nat.lt_of_lt_of_le (orF_lt O 0 hri.1 (Nat.two_pow_pos _)) (Nat.pow_le_pow_right (by omega) (by omega))
  obtain ⟨B, hB⟩ : ∃ B, orF O 0 = B := ⟨_, rfl⟩
  rw [hB] at hlk hBl
  have HBo := Lib.hid hB
  have kb1 := keep_book nb B
  have kb2 := keep_book nb o
  rw [nl] at kb1 kb2
  obtain ⟨K, hK⟩ : ∃ K, keepB l B M = K := ⟨_, rfl⟩
  obtain ⟨K2, hK2⟩ : ∃ K, keepB l o M = K := ⟨_, rfl⟩
  obtain ⟨T1, hT1⟩ : ∃ K, outB B M = K := ⟨_, rfl⟩
  obtain ⟨T2, hT2⟩ : ∃ K, outB o M = K := ⟨_, rfl⟩
  have hkl := keepB_len l B M
  have hkl2 := keepB_len l o M
  rw [hK] at kb1 hlk hkl
  rw [hK2] at kb2 hlw hz hkl2
  rw [hT2] at hlw
  have hT2l : T2.length ≤ M := by rw [← hT2]; exact outB_len o M
  obtain ⟨nK, hnK⟩ : ∃ n, K.length = n := ⟨_, rfl⟩
  obtain ⟨nK2, hnK2⟩ : ∃ n, K2.length = n := ⟨_, rfl⟩
  obtain ⟨nT1, hnT1⟩ : ∃ n, T1.length = n := ⟨_, rfl⟩
  obtain ⟨nT2, hnT2⟩ : ∃ n, T2.length = n := ⟨_, rfl⟩
  rw [hnK] at hkl
  rw [hnK2] at hkl2
  rw [hnT2] at hT2l
  have HK := Lib.hid hK
  have HK2 := Lib.hid hK2
  have HT1 := Lib.hid hT1
  have HT2 := Lib.hid hT2
  have HnK := Lib.hid hnK
  have HnK2 := Lib.hid hnK2
  have HnT1 := Lib.hid hnT1
  have HnT2 := Lib.hid hnT2
  have HX1 : Hid (explErr p K = 0) := Lib.hid (by unfold explErr; rw [if_neg (by simpa using kb1), if_pos hlk])
  have HX2 : Hid (explErr p K2 = 0) := Lib.hid (by unfold explErr; rw [if_neg (by simpa using kb2), hz]; rfl)
  have Hls : Hid (lessB T2 O = false) := Lib.hid (hlw hz)
  obtain ⟨X1, hX1⟩ : ∃ X, explOut p K = X := ⟨_, rfl⟩
  obtain ⟨X2, hX2⟩ : ∃ X, explOut p K2 = X := ⟨_, rfl⟩
  obtain ⟨nX1, hnX1⟩ : ∃ n, X1.length = n := ⟨_, rfl⟩
  obtain ⟨nX2, hnX2⟩ : ∃ n, X2.length = n := ⟨_, rfl⟩
  have HXO1 := Lib.hid hX1
  have HXO2 := Lib.hid hX2
  have HnX1 := Lib.hid hnX1
  have HnX2 := Lib.hid hnX2
  obtain ⟨Y, hY⟩ : ∃ Y, l ++ [en] = Y := ⟨_, rfl⟩
  have hYl : Y.length = M + 1 := by rw [← hY]; simp [nl]
  rw [hY] at hk hmo
  have HY := Lib.hid hY
  have HYl := Lib.hid hYl
  obtain ⟨E2, hE2⟩ : ∃ E, bookErr p Y = E := ⟨_, rfl⟩
  rw [hE2] at hk
  have HE2 := Lib.hid hE2
  have hne : (E2 != 0) = true := by simpa using hk
  have hne2 : (E2 == 0) = false := by simpa using hk
  clear hE2
  have hwo : IntKind.i64.wrap (o : Int) = (o : Int) := IntWalk.i64_in _ (by omega)
  have ho10 : o < 1024 := by omega
  clear hT big hu lw0 lw1 hM hsh hst hlen ht hJ nb nl hJe hl hod hlk hlw hO hri hnO hB kb1 kb2 hK hK2 hT1 hT2 hnK hnK2 hnT1 hnT2 hX1 hX2 hnX1 hnX2 hY hYl hz hk hmo
  go_enter Try.func13, Try.ntmps13
  go_wp2_with fail
  go_at_call 44
  refine (ready_eq a c ar cr p _ true HT (hs.below (by (repeat (first | exact Below.refl _ _ | refine Below.alloc ?_ (by first | omega | (simp; done) | (simp; omega)) _ | refine Below.drew ?_ | refine Below.setCell ?_ (by first | omega | (simp; done) | (simp; omega)) _ | refine Below.trans ?_ (Below.mono (by assumption) (by first | omega | (simp; done) | (simp; omega))))))) (hr.below (by (repeat (first | exact Below.refl _ _ | refine Below.alloc ?_ (by first | omega | (simp; done) | (simp; omega)) _ | refine Below.drew ?_ | refine Below.setCell ?_ (by first | omega | (simp; done) | (simp; omega)) _ | refine Below.trans ?_ (Below.mono (by assumption) (by first | omega | (simp; done) | (simp; omega))))))) HB.out).mono ?_
  rintro e w1 ⟨rfl, b1⟩
  have t1 : Below w.heap.size w w1 := by (repeat (first | exact Below.refl _ _ | refine Below.alloc ?_ (by first | omega | (simp; done) | (simp; omega)) _ | refine Below.drew ?_ | refine Below.setCell ?_ (by first | omega | (simp; done) | (simp; omega)) _ | refine Below.trans ?_ (Below.mono (by assumption) (by first | omega | (simp; done) | (simp; omega)))))
  replace hs := hs.below t1
  replace hr := hr.below t1
  replace hw := hw.below t1
  have C0 : Cells w1 w.heap.size #[.slice a p.sends.length c, .slice ar p.routes.length cr, .int .i64 p.pat] 25 := ((Cells.new _ _ _).alloc _).below b1
  have C1 : Cells w1 (w.heap.size + 1) #[.int .i64 en.num, .int .i64 en.at_, .bool en.skip] 93 := (Cells.new' _ _ _ _ (by simp)).below b1
  have q0 := C0.cell 0
  have q1 := C0.cell 1
  have q2 := C0.cell 2
  have lB := C0.lt
  have m0 := C1.cell 0
  have m1 := C1.cell 1
  have m2 := C1.cell 2
  have lE := C1.lt
  simp at q0 q1 q2 m0 m1 m2
  clear C0 C1
  go_wp2_with fail
  (refine wp_region_seq 7 [] [7, 8] 180 [true, true, true, false, true, true, true] [TrV p.sends.length t] (by kernel_rfl) (by kernel_rfl) rfl (mono_cons (fun v w w' h hb => h.kept hb) mono_nil) ?_; simp only [pickOps, List.filterMap_cons, List.filterMap_nil, List.getElem?_toArray, List.getElem?_cons_succ, List.getElem?_cons_zero]; (repeat (refine wpFl_step _ rfl (fun w => (by go_simp; rfl)) ?_)); refine wpFl_nil ?_; simp only [maskOps, dummy, Act.put, List.setIfInBounds_toArray, List.set_cons_zero, List.set_cons_succ, List.take_succ_cons, List.take_zero, List.drop_succ_cons, List.drop_zero]; (repeat (refine wpQB_step (fun K hK => ?_); go_simp; first | (refine hK _ ?_; clear hK K) | (apply Exists.intro; refine ⟨fun ex => ?_, hK _ ?_⟩; (fail); clear hK K))); refine wpQB_nil ?_; simp only [relObl2, under, relEnd, and_true, List.nil_append, List.cons_append])
  refine ⟨fun e => ?_, fun e => ?_⟩
  · go_simp
    refine (pickedT_eq a c ar cr p aw ws cw _ t HTt (hs.below e.below) (hr.below e.below) (hw.below e.below) HU lw HE).mono ?_
    rintro _ _ ⟨⟨a2, c2, rfl, tA, nT⟩, hb⟩
    exact ⟨hb, a2, c2, rfl, tA⟩
  rintro v1 ⟨a2, c2, rfl, tA⟩
  simp only [Act.put, List.setIfInBounds_toArray, List.set_cons_zero, List.set_cons_succ]
  have b2 := e.below
  obtain ⟨w2, hwq⟩ : ∃ x : World, x = e.to := ⟨_, rfl⟩
  rw [← hwq] at b2 tA ⊢
  clear hwq e
  have j2 : Below w1.heap.size w1 w2 := by (repeat (first | exact Below.refl _ _ | refine Below.alloc ?_ (by first | omega | (simp; done) | (simp; omega)) _ | refine Below.drew ?_ | refine Below.setCell ?_ (by first | omega | (simp; done) | (simp; omega)) _ | refine Below.trans ?_ (Below.mono (by assumption) (by first | omega | (simp; done) | (simp; omega)))))
  have t2 : Below w.heap.size w w2 := t1.trans (j2.mono t1.size)
  replace hs := hs.below j2
  replace hr := hr.below j2
  replace hw := hw.below j2
  replace q0 := below_cell j2 q0
  replace q1 := below_cell j2 q1
  replace q2 := below_cell j2 q2
  replace m0 := below_cell j2 m0
  replace m1 := below_cell j2 m1
  replace m2 := below_cell j2 m2
  replace lB := Nat.lt_of_lt_of_le lB j2.size
  replace lE := Nat.lt_of_lt_of_le lE j2.size
  go_wp2_with fail
  go_at_call 49
  refine (notedB_eq a c ar cr p a2 t p.sends.length c2 aw ws cw m b _ J M l HM6 Hl HJe HtN HnJ hpos hs hr tA HPO hw HU lw hm hb lS HJ).mono ?_
  rintro e w3 ⟨⟨a3, c3, rfl, eL, nL⟩, b3⟩
  have j3 : Below w2.heap.size w2 w3 := by (repeat (first | exact Below.refl _ _ | refine Below.alloc ?_ (by first | omega | (simp; done) | (simp; omega)) _ | refine Below.drew ?_ | refine Below.setCell ?_ (by first | omega | (simp; done) | (simp; omega)) _ | refine Below.trans ?_ (Below.mono (by assumption) (by first | omega | (simp; done) | (simp; omega)))))
  have t3 : Below w.heap.size w w3 := t2.trans (j3.mono t2.size)
  replace hs := hs.below j3
  replace hr := hr.below j3
  replace hw := hw.below j3
  replace q0 := below_cell j3 q0
  replace q1 := below_cell j3 q1
  replace q2 := below_cell j3 q2
  replace m0 := below_cell j3 m0
  replace m1 := below_cell j3 m1
  replace m2 := below_cell j3 m2
  replace lB := Nat.lt_of_lt_of_le lB j3.size
  replace lE := Nat.lt_of_lt_of_le lE j3.size
  replace tA := tA.below j3
  clear tA hw
  go_wp2_with fail
  go_at_call 21
  refine (post_eq a c ar cr p _ hs hr SM na).mono ?_
  rintro e w4 ⟨⟨a4, c4, r4, d4, rfl, s4, o4⟩, b4⟩
  have j4 : Below w3.heap.size w3 w4 := by (repeat (first | exact Below.refl _ _ | refine Below.alloc ?_ (by first | omega | (simp; done) | (simp; omega)) _ | refine Below.drew ?_ | refine Below.setCell ?_ (by first | omega | (simp; done) | (simp; omega)) _ | refine Below.trans ?_ (Below.mono (by assumption) (by first | omega | (simp; done) | (simp; omega)))))
  have t4 : Below w.heap.size w w4 := t3.trans (j4.mono t3.size)
  replace hs := hs.below j4
  replace hr := hr.below j4
  replace q0 := below_cell j4 q0
  replace q1 := below_cell j4 q1
  replace q2 := below_cell j4 q2
  replace m0 := below_cell j4 m0
  replace m1 := below_cell j4 m1
  replace m2 := below_cell j4 m2
  replace lB := Nat.lt_of_lt_of_le lB j4.size
  replace lE := Nat.lt_of_lt_of_le lE j4.size
  replace eL := eL.below j4
  go_wp2_with fail
  go_at_call 41
  refine (entsM_eq a3 l M c3 HM _ eL hM6).mono ?_
  rintro e w5 ⟨⟨u4, v4, rfl, eB4⟩, b5⟩
  have j5 : Below w4.heap.size w4 w5 := by (repeat (first | exact Below.refl _ _ | refine Below.alloc ?_ (by first | omega | (simp; done) | (simp; omega)) _ | refine Below.drew ?_ | refine Below.setCell ?_ (by first | omega | (simp; done) | (simp; omega)) _ | refine Below.trans ?_ (Below.mono (by assumption) (by first | omega | (simp; done) | (simp; omega)))))
  have t5 : Below w.heap.size w w5 := t4.trans (j5.mono t4.size)
  replace hs := hs.below j5
  replace hr := hr.below j5
  replace q0 := below_cell j5 q0
  replace q1 := below_cell j5 q1
  replace q2 := below_cell j5 q2
  replace m0 := below_cell j5 m0
  replace m1 := below_cell j5 m1
  replace m2 := below_cell j5 m2
  replace lB := Nat.lt_of_lt_of_le lB j5.size
  replace lE := Nat.lt_of_lt_of_le lE j5.size
  replace eL := eL.below j5
  replace s4 := s4.below j5
  replace o4 := o4.below j5
  go_wp2_with fail
  go_at_call 40
  refine (oddM_eq a4 c4 r4 d4 p u4 l M v4 HM _ 0 O nO Hb Hod HnO s4 o4 SM eB4 hM6).mono ?_
  rintro e w6 ⟨⟨e4, f4, rfl, i4⟩, b6⟩
  have j6 : Below w5.heap.size w5 w6 := by (repeat (first | exact Below.refl _ _ | refine Below.alloc ?_ (by first | omega | (simp; done) | (simp; omega)) _ | refine Below.drew ?_ | refine Below.setCell ?_ (by first | omega | (simp; done) | (simp; omega)) _ | refine Below.trans ?_ (Below.mono (by assumption) (by first | omega | (simp; done) | (simp; omega)))))
  have t6 : Below w.heap.size w w6 := t5.trans (j6.mono t5.size)
  replace hs := hs.below j6
  replace hr := hr.below j6
  replace q0 := below_cell j6 q0
  replace q1 := below_cell j6 q1
  replace q2 := below_cell j6 q2
  replace m0 := below_cell j6 m0
  replace m1 := below_cell j6 m1
  replace m2 := below_cell j6 m2
  replace lB := Nat.lt_of_lt_of_le lB j6.size
  replace lE := Nat.lt_of_lt_of_le lE j6.size
  replace eL := eL.below j6
  replace s4 := s4.below j6
  replace o4 := o4.below j6
  replace eB4 := eB4.below j6
  clear s4 o4 eB4
  clear HTt HtN ST HPO HJe Hl HnJ HJ HM6 Hod Hb
  go_wp2_with fail
  go_loopw [16, 17] (fun x1 u wr => ∃ k : Nat, k ≤ nO ∧ u = .int .i64 k ∧ x1 = .int .i64 ((orF (O.take k) 0 : Nat) : Int) ∧ Below w6.heap.size w6 wr) (fun _ u _ => nO - (intOf u).toNat)
  case atStart => exact ⟨0, Nat.zero_le _, rfl, rfl, Below.refl _ _⟩
  case round =>
    obtain ⟨k, hk, rfl, rfl, hb6⟩ := hrel
    have z6 := hb6.size
    by_cases hkl : k < nO
    · have hkI : (k : Int) < (nO : Int) := by omega
      have hkO : k < O.length := by rw [HnO.out]; exact hkl
      have hX := Hri.out.1 _ (List.getElem_mem hkO)
      have hup := Hri.out.2
      have hot := orF_take O hkO 0
      have hbk : orF (O.take k) 0 < 2 ^ 10 := Nat.lt_of_lt_of_le (orF_lt (O.take k) 0 (fun x hx => Hri.out.1 x (List.mem_of_mem_take hx)) (Nat.two_pow_pos _)) (Nat.pow_le_pow_right (by omega) (show M ≤ 10 by omega))
      obtain ⟨g0, off0, rfl, hg0, s0⟩ := (i4.below hb6) k hkO
      replace s0 : wr.cell? ⟨g0, off0 + k, none⟩ = some (.int .i64 O[k]) := s0.trans (by simp [hkO])
      have hpv : ∀ j, j + 1 = k → ∃ y : Int, wr.cell? ⟨g0, off0 + j, none⟩ = some (.int .i64 y) ∧ y < O[k] := fun j hj => by
        subst hj
        have hj : j < O.length := by omega
        obtain ⟨g1, off1, hh, _, s1⟩ := (i4.below hb6) j hj
        cases hh
        exact ⟨O[j], s1.trans (by simp [hj]), hup j hkO⟩
      obtain ⟨x, hx⟩ : ∃ x, O[k] = x := ⟨_, rfl⟩
      rw [hx] at hX s0 hot hpv
      have hq : x.toNat ≤ 4 := by omega
      have n0 : ¬ (x < 0) := by omega
      have n1 : ¬ ((M : Int) ≤ x) := by omega
      have e0 : decide (x < 0) = false := decide_eq_false n0
      have e1 : decide ((M : Int) ≤ x) = false := decide_eq_false n1
      have hx0 : 0 ≤ x := hX.1
      have hcu : IntKind.u64.wrap x = x := by simp [IntKind.wrap, IntKind.bits, IntKind.signed]; omega
      have hsl := shl_small (show x.toNat ≤ 8 by omega)
      have h2q : 2 ^ x.toNat < 2 ^ 10 := Nat.pow_lt_pow_right (by omega) (by omega)
      have hor := or_small hbk h2q
      rw [← hot] at hor
      obtain ⟨S, hS⟩ : ∃ S, orF (O.take k) 0 = S := ⟨_, rfl⟩
      obtain ⟨S2, hS2⟩ : ∃ S, orF (O.take (k + 1)) 0 = S := ⟨_, rfl⟩
      obtain ⟨Q, hQ⟩ : ∃ Q : Nat, 2 ^ x.toNat = Q := ⟨_, rfl⟩
      rw [hQ] at hsl hor
      rw [hS] at hor ⊢
      rw [hS2] at hor
      have HS2 := Lib.hid hS2
      clear hS hS2 hQ hbk hot h2q hx hup hX
      rcases Nat.eq_zero_or_pos k with rfl | hkp
      · clear hpv
        simp only [Nat.add_zero] at s0
        go_wp2
        (refine wp_region_ext 30 (by kernel_rfl) (by kernel_rfl) ?_; simp only [List.take_succ_cons, List.take_zero, List.drop_succ_cons, List.drop_zero]; (repeat (go_big_quiet_step ((fail)))); refine wpQuiet_nil ?_; rintro _ ⟨ex, rfl⟩; have hex := ex.below; have hexz := ex.size; (try simp at hexz); (try (have hy0 : w.heap.size < ex.to.heap.size := by omega)); (try (have hy1 : w.heap.size + 1 < ex.to.heap.size := by omega)); (try (have hy2 : w.heap.size + 2 < ex.to.heap.size := by omega)))
        have b7 := ex.below
        obtain ⟨W7, hW7⟩ : ∃ x : World, x = ex.to := ⟨_, rfl⟩
        rw [← hW7] at b7 ⊢
        clear hW7
        have c7' := hb6.trans (b7.mono z6)
        replace s0 := below_cell b7 s0
        have hg7 := cell_ltK s0
        go_wp2
        go_roundw
        case rel => exact ⟨0 + 1, by omega, by go_num, by rw [HS2.out], c7'⟩
        case measure => simp [intOf]; omega
      · obtain ⟨j, hj⟩ : ∃ j, j + 1 = k := ⟨k - 1, by omega⟩
        obtain ⟨y, s1, hy⟩ := hpv j hj
        clear hpv
        have hk0 : (0 : Int) < (k : Int) := by omega
        have hw1 : IntKind.i64.wrap ((k : Int) - 1) = (j : Int) := by rw [IntWalk.i64_in _ (by omega)]; omega
        have hjI : (j : Int) < (nO : Int) := by omega
        have n2 : ¬ (x ≤ y) := by omega
        have e2 : decide (x ≤ y) = false := decide_eq_false n2
        go_wp2
        (refine wp_region_ext 30 (by kernel_rfl) (by kernel_rfl) ?_; simp only [List.take_succ_cons, List.take_zero, List.drop_succ_cons, List.drop_zero]; (repeat (go_big_quiet_step ((fail)))); refine wpQuiet_nil ?_; rintro _ ⟨ex, rfl⟩; have hex := ex.below; have hexz := ex.size; (try simp at hexz); (try (have hy0 : w.heap.size < ex.to.heap.size := by omega)); (try (have hy1 : w.heap.size + 1 < ex.to.heap.size := by omega)); (try (have hy2 : w.heap.size + 2 < ex.to.heap.size := by omega)))
        have b7 := ex.below
        obtain ⟨W7, hW7⟩ : ∃ x : World, x = ex.to := ⟨_, rfl⟩
        rw [← hW7] at b7 ⊢
        clear hW7
        have c7' := hb6.trans (b7.mono z6)
        replace s0 := below_cell b7 s0
        have hg7 := cell_ltK s0
        go_wp2
        go_roundw
        case rel => exact ⟨k + 1, by omega, by go_num, by rw [HS2.out], c7'⟩
        case measure => simp [intOf]; omega
    · have hkI : ¬ ((k : Int) < (nO : Int)) := by omega
      obtain rfl : k = nO := by omega
      rw [show O.take k = O by rw [← HnO.out, List.take_length], HBo.out]
      clear hk hkl
      have b7 := hb6
      obtain ⟨w7, hwq⟩ : ∃ x : World, x = wr := ⟨_, rfl⟩
      subst hwq
      have j7 : Below w6.heap.size w6 w7 := by (repeat (first | exact Below.refl _ _ | refine Below.alloc ?_ (by first | omega | (simp; done) | (simp; omega)) _ | refine Below.drew ?_ | refine Below.setCell ?_ (by first | omega | (simp; done) | (simp; omega)) _ | refine Below.trans ?_ (Below.mono (by assumption) (by first | omega | (simp; done) | (simp; omega)))))
      have t7 : Below w.heap.size w w7 := t6.trans (j7.mono t6.size)
      replace hs := hs.below j7
      replace hr := hr.below j7
      replace q0 := below_cell j7 q0
      replace q1 := below_cell j7 q1
      replace q2 := below_cell j7 q2
      replace m0 := below_cell j7 m0
      replace m1 := below_cell j7 m1
      replace m2 := below_cell j7 m2
      replace lB := Nat.lt_of_lt_of_le lB j7.size
      replace lE := Nat.lt_of_lt_of_le lE j7.size
      replace eL := eL.below j7
      replace i4 := i4.below j7
      have r7 : Below w6.heap.size w6 w7 := j7
      go_wp2_with fail
      go_at_call 50
      refine (someM_eq a3 l M c3 HM B K T1 nK nT1 HK HT1 HnK HnT1 _ eL (by omega) hBl).mono ?_
      rintro e w8 ⟨⟨a5, c5, x5, y5, rfl, eK, iT, nT⟩, b8⟩
      have j8 : Below w7.heap.size w7 w8 := by (repeat (first | exact Below.refl _ _ | refine Below.alloc ?_ (by first | omega | (simp; done) | (simp; omega)) _ | refine Below.drew ?_ | refine Below.setCell ?_ (by first | omega | (simp; done) | (simp; omega)) _ | refine Below.trans ?_ (Below.mono (by assumption) (by first | omega | (simp; done) | (simp; omega)))))
      have t8 : Below w.heap.size w w8 := t7.trans (j8.mono t7.size)
      have r8 : Below w6.heap.size w6 w8 := r7.trans (j8.mono r7.size)
      replace hs := hs.below j8
      replace hr := hr.below j8
      replace q0 := below_cell j8 q0
      replace q1 := below_cell j8 q1
      replace q2 := below_cell j8 q2
      replace m0 := below_cell j8 m0
      replace m1 := below_cell j8 m1
      replace m2 := below_cell j8 m2
      replace lB := Nat.lt_of_lt_of_le lB j8.size
      replace lE := Nat.lt_of_lt_of_le lE j8.size
      replace eL := eL.below j8
      replace i4 := i4.below j8
      clear iT nT
      go_wp2_with fail
      go_at_call 50
      refine (someM_eq a3 l M c3 HM o K2 T2 nK2 nT2 HK2 HT2 HnK2 HnT2 _ eL (by omega) ho10).mono ?_
      rintro e w9 ⟨⟨a6, c6, x6, y6, rfl, eK2, iT2, nT2'⟩, b9⟩
      have j9 : Below w8.heap.size w8 w9 := by (repeat (first | exact Below.refl _ _ | refine Below.alloc ?_ (by first | omega | (simp; done) | (simp; omega)) _ | refine Below.drew ?_ | refine Below.setCell ?_ (by first | omega | (simp; done) | (simp; omega)) _ | refine Below.trans ?_ (Below.mono (by assumption) (by first | omega | (simp; done) | (simp; omega)))))
      have t9 : Below w.heap.size w w9 := t8.trans (j9.mono t8.size)
      have r9 : Below w6.heap.size w6 w9 := r8.trans (j9.mono r8.size)
      replace hs := hs.below j9
      replace hr := hr.below j9
      replace q0 := below_cell j9 q0
      replace q1 := below_cell j9 q1
      replace q2 := below_cell j9 q2
      replace m0 := below_cell j9 m0
      replace m1 := below_cell j9 m1
      replace m2 := below_cell j9 m2
      replace lB := Nat.lt_of_lt_of_le lB j9.size
      replace lE := Nat.lt_of_lt_of_le lE j9.size
      replace eL := eL.below j9
      replace i4 := i4.below j9
      replace eK := eK.below j9
      go_wp2_with fail
      go_at_call 21
      refine (post_eq a c ar cr p _ hs hr SM na).mono ?_
      rintro e w10 ⟨⟨a7, c7, r7, d7, rfl, s7, o7⟩, b10⟩
      have j10 : Below w9.heap.size w9 w10 := by (repeat (first | exact Below.refl _ _ | refine Below.alloc ?_ (by first | omega | (simp; done) | (simp; omega)) _ | refine Below.drew ?_ | refine Below.setCell ?_ (by first | omega | (simp; done) | (simp; omega)) _ | refine Below.trans ?_ (Below.mono (by assumption) (by first | omega | (simp; done) | (simp; omega)))))
      have t10 : Below w.heap.size w w10 := t9.trans (j10.mono t9.size)
      have r10 : Below w6.heap.size w6 w10 := r9.trans (j10.mono r9.size)
      replace hs := hs.below j10
      replace hr := hr.below j10
      replace q0 := below_cell j10 q0
      replace q1 := below_cell j10 q1
      replace q2 := below_cell j10 q2
      replace m0 := below_cell j10 m0
      replace m1 := below_cell j10 m1
      replace m2 := below_cell j10 m2
      replace lB := Nat.lt_of_lt_of_le lB j10.size
      replace lE := Nat.lt_of_lt_of_le lE j10.size
      replace eL := eL.below j10
      replace i4 := i4.below j10
      replace eK := eK.below j10
      replace eK2 := eK2.below j10
      replace iT2 := iT2.below j10
      go_wp2_with fail
      go_at_call 41
      refine (entsM_eq a5 K nK c5 HnK _ eK (by omega)).mono ?_
      rintro e w11 ⟨⟨u7, v7, rfl, eB7⟩, b11⟩
      have j11 : Below w10.heap.size w10 w11 := by (repeat (first | exact Below.refl _ _ | refine Below.alloc ?_ (by first | omega | (simp; done) | (simp; omega)) _ | refine Below.drew ?_ | refine Below.setCell ?_ (by first | omega | (simp; done) | (simp; omega)) _ | refine Below.trans ?_ (Below.mono (by assumption) (by first | omega | (simp; done) | (simp; omega)))))
      have t11 : Below w.heap.size w w11 := t10.trans (j11.mono t10.size)
      have r11 : Below w6.heap.size w6 w11 := r10.trans (j11.mono r10.size)
      replace hs := hs.below j11
      replace hr := hr.below j11
      replace q0 := below_cell j11 q0
      replace q1 := below_cell j11 q1
      replace q2 := below_cell j11 q2
      replace m0 := below_cell j11 m0
      replace m1 := below_cell j11 m1
      replace m2 := below_cell j11 m2
      replace lB := Nat.lt_of_lt_of_le lB j11.size
      replace lE := Nat.lt_of_lt_of_le lE j11.size
      replace eL := eL.below j11
      replace i4 := i4.below j11
      replace eK := eK.below j11
      replace eK2 := eK2.below j11
      replace iT2 := iT2.below j11
      replace s7 := s7.below j11
      replace o7 := o7.below j11
      go_wp2_with fail
      go_at_call 48
      refine (explM_eq a7 c7 r7 d7 p u7 K nK v7 HnK _ 0 X1 nX1 HX1 HXO1 HnX1 s7 o7 SM eB7 (by omega)).mono ?_
      rintro e w12 ⟨⟨e7, f7, rfl, tX, nx7⟩, b12⟩
      have j12 : Below w11.heap.size w11 w12 := by (repeat (first | exact Below.refl _ _ | refine Below.alloc ?_ (by first | omega | (simp; done) | (simp; omega)) _ | refine Below.drew ?_ | refine Below.setCell ?_ (by first | omega | (simp; done) | (simp; omega)) _ | refine Below.trans ?_ (Below.mono (by assumption) (by first | omega | (simp; done) | (simp; omega)))))
      have t12 : Below w.heap.size w w12 := t11.trans (j12.mono t11.size)
      have r12 : Below w6.heap.size w6 w12 := r11.trans (j12.mono r11.size)
      replace hs := hs.below j12
      replace hr := hr.below j12
      replace q0 := below_cell j12 q0
      replace q1 := below_cell j12 q1
      replace q2 := below_cell j12 q2
      replace m0 := below_cell j12 m0
      replace m1 := below_cell j12 m1
      replace m2 := below_cell j12 m2
      replace lB := Nat.lt_of_lt_of_le lB j12.size
      replace lE := Nat.lt_of_lt_of_le lE j12.size
      replace eL := eL.below j12
      replace i4 := i4.below j12
      replace eK := eK.below j12
      replace eK2 := eK2.below j12
      replace iT2 := iT2.below j12
      replace s7 := s7.below j12
      replace o7 := o7.below j12
      replace eB7 := eB7.below j12
      clear tX nx7
      clear s7 o7 eB7 eK
      go_wp2_with fail
      go_at_call 21
      refine (post_eq a c ar cr p _ hs hr SM na).mono ?_
      rintro e w13 ⟨⟨a8, c8, r8, d8, rfl, s8, o8⟩, b13⟩
      have j13 : Below w12.heap.size w12 w13 := by (repeat (first | exact Below.refl _ _ | refine Below.alloc ?_ (by first | omega | (simp; done) | (simp; omega)) _ | refine Below.drew ?_ | refine Below.setCell ?_ (by first | omega | (simp; done) | (simp; omega)) _ | refine Below.trans ?_ (Below.mono (by assumption) (by first | omega | (simp; done) | (simp; omega)))))
      have t13 : Below w.heap.size w w13 := t12.trans (j13.mono t12.size)
      have r13 : Below w6.heap.size w6 w13 := r12.trans (j13.mono r12.size)
      replace hs := hs.below j13
      replace hr := hr.below j13
      replace q0 := below_cell j13 q0
      replace q1 := below_cell j13 q1
      replace q2 := below_cell j13 q2
      replace m0 := below_cell j13 m0
      replace m1 := below_cell j13 m1
      replace m2 := below_cell j13 m2
      replace lB := Nat.lt_of_lt_of_le lB j13.size
      replace lE := Nat.lt_of_lt_of_le lE j13.size
      replace eL := eL.below j13
      replace i4 := i4.below j13
      replace eK2 := eK2.below j13
      replace iT2 := iT2.below j13
      go_wp2_with fail
      go_at_call 41
      refine (entsM_eq a6 K2 nK2 c6 HnK2 _ eK2 (by omega)).mono ?_
      rintro e w14 ⟨⟨u8, v8, rfl, eB8⟩, b14⟩
      have j14 : Below w13.heap.size w13 w14 := by (repeat (first | exact Below.refl _ _ | refine Below.alloc ?_ (by first | omega | (simp; done) | (simp; omega)) _ | refine Below.drew ?_ | refine Below.setCell ?_ (by first | omega | (simp; done) | (simp; omega)) _ | refine Below.trans ?_ (Below.mono (by assumption) (by first | omega | (simp; done) | (simp; omega)))))
      have t14 : Below w.heap.size w w14 := t13.trans (j14.mono t13.size)
      have r14 : Below w6.heap.size w6 w14 := r13.trans (j14.mono r13.size)
      replace hs := hs.below j14
      replace hr := hr.below j14
      replace q0 := below_cell j14 q0
      replace q1 := below_cell j14 q1
      replace q2 := below_cell j14 q2
      replace m0 := below_cell j14 m0
      replace m1 := below_cell j14 m1
      replace m2 := below_cell j14 m2
      replace lB := Nat.lt_of_lt_of_le lB j14.size
      replace lE := Nat.lt_of_lt_of_le lE j14.size
      replace eL := eL.below j14
      replace i4 := i4.below j14
      replace eK2 := eK2.below j14
      replace iT2 := iT2.below j14
      replace s8 := s8.below j14
      replace o8 := o8.below j14
      go_wp2_with fail
      go_at_call 48
      refine (explM_eq a8 c8 r8 d8 p u8 K2 nK2 v8 HnK2 _ 0 X2 nX2 HX2 HXO2 HnX2 s8 o8 SM eB8 (by omega)).mono ?_
      rintro e w15 ⟨⟨e8, f8, rfl, tX, nx8⟩, b15⟩
      have j15 : Below w14.heap.size w14 w15 := by (repeat (first | exact Below.refl _ _ | refine Below.alloc ?_ (by first | omega | (simp; done) | (simp; omega)) _ | refine Below.drew ?_ | refine Below.setCell ?_ (by first | omega | (simp; done) | (simp; omega)) _ | refine Below.trans ?_ (Below.mono (by assumption) (by first | omega | (simp; done) | (simp; omega)))))
      have t15 : Below w.heap.size w w15 := t14.trans (j15.mono t14.size)
      have r15 : Below w6.heap.size w6 w15 := r14.trans (j15.mono r14.size)
      replace hs := hs.below j15
      replace hr := hr.below j15
      replace q0 := below_cell j15 q0
      replace q1 := below_cell j15 q1
      replace q2 := below_cell j15 q2
      replace m0 := below_cell j15 m0
      replace m1 := below_cell j15 m1
      replace m2 := below_cell j15 m2
      replace lB := Nat.lt_of_lt_of_le lB j15.size
      replace lE := Nat.lt_of_lt_of_le lE j15.size
      replace eL := eL.below j15
      replace i4 := i4.below j15
      replace eK2 := eK2.below j15
      replace iT2 := iT2.below j15
      replace s8 := s8.below j15
      replace o8 := o8.below j15
      replace eB8 := eB8.below j15
      clear tX nx8
      clear s8 o8 eB8 eK2
      go_wp2_with fail
      go_at_call 51
      refine (less_eq x6 T2 nT2 y6 HnT2 e4 O k f4 HnO false Hls _ iT2 i4 (by omega) (by omega)).mono ?_
      rintro e w16 ⟨rfl, b16⟩
      have j16 : Below w15.heap.size w15 w16 := by (repeat (first | exact Below.refl _ _ | refine Below.alloc ?_ (by first | omega | (simp; done) | (simp; omega)) _ | refine Below.drew ?_ | refine Below.setCell ?_ (by first | omega | (simp; done) | (simp; omega)) _ | refine Below.trans ?_ (Below.mono (by assumption) (by first | omega | (simp; done) | (simp; omega)))))
      have t16 : Below w.heap.size w w16 := t15.trans (j16.mono t15.size)
      have r16 : Below w6.heap.size w6 w16 := r15.trans (j16.mono r15.size)
      replace hs := hs.below j16
      replace hr := hr.below j16
      replace q0 := below_cell j16 q0
      replace q1 := below_cell j16 q1
      replace q2 := below_cell j16 q2
      replace m0 := below_cell j16 m0
      replace m1 := below_cell j16 m1
      replace m2 := below_cell j16 m2
      replace lB := Nat.lt_of_lt_of_le lB j16.size
      replace lE := Nat.lt_of_lt_of_le lE j16.size
      replace eL := eL.below j16
      replace i4 := i4.below j16
      replace iT2 := iT2.below j16
      clear iT2 i4
      have hal : a3 = none → M = 0 ∧ c3 = 0 := fun h => by
        refine ⟨?_, nL h⟩
        subst h
        rcases Nat.eq_zero_or_pos M with e | e
        · exact e
        · obtain ⟨b, off, hh, _⟩ := eL 0 (by rw [HM.out]; exact e)
          cases hh
      go_wp2_with fail
      (refine wp_region_seq 5 [] [5, 6] 180 [false, true, false, true, false] [LitV w16.heap.size 0 #[] 93, OwnV 93 3 w16.heap.size M (flatE l), LitV w16.heap.size 1 #[.int .i64 en.num, .int .i64 en.at_, .bool en.skip] 93] (by kernel_rfl) (by kernel_rfl) rfl (mono_cons (fun v w w' h hb => h.kept hb) (mono_cons (fun v w w' h hb => h.kept hb) (mono_cons (fun v w w' h hb => h.kept hb) mono_nil))) ?_; simp only [pickOps, List.filterMap_cons, List.filterMap_nil, List.getElem?_toArray, List.getElem?_cons_succ, List.getElem?_cons_zero]; (repeat (refine wpFl_step _ rfl (fun w => (by go_simp; rfl)) ?_)); refine wpFl_nil ?_; simp only [maskOps, dummy, Act.put, List.setIfInBounds_toArray, List.set_cons_zero, List.set_cons_succ, List.take_succ_cons, List.take_zero, List.drop_succ_cons, List.drop_zero]; (repeat (refine wpQB_step (fun K hK => ?_); go_simp; first | (refine hK _ ?_; clear hK K) | (apply Exists.intro; refine ⟨fun ex => ?_, hK _ ?_⟩; (fail); clear hK K))); refine wpQB_nil ?_; simp only [relObl2, under, relEnd, and_true, List.nil_append, List.cons_append])
      refine ⟨⟨fun e => ?_, fun e v1 h1 => ?_, fun e v1 h1 v2 h2 => ?_⟩, fun e => ?_⟩
      · go_simp
        exact ⟨(Below.refl _ _).alloc (Nat.le_refl _) _, e.to.heap.size, rfl, e.size, Cells.new _ _ _⟩
      · obtain ⟨g, rfl, hg, hc⟩ := h1 (by kernel_rfl)
        exact gives_app0 el_rentries e.to w16.heap.size g _ _ rfl rfl hc hg a3 M c3 (flatE l) rfl hal (by rw [flatE_len, HM.out]) (SrcAt.ents (eL.below e.below)) (by unfold maxLen; omega) (by omega)
      · go_simp
        exact ⟨(Below.refl _ _).alloc (Nat.le_refl _) _, e.to.heap.size, rfl, e.size, Cells.new _ _ _⟩
      rintro v1 - v2 ⟨a9, c9, rfl, o9⟩ v3 ⟨g3, rfl, hg3, hc3⟩
      simp only [Act.put, List.setIfInBounds_toArray, List.set_cons_zero, List.set_cons_succ]
      have heb := e.below
      obtain ⟨x9, hx9⟩ : ∃ x : World, x = e.to := ⟨_, rfl⟩
      rw [← hx9] at heb hc3 o9 ⊢
      clear hx9 e
      have hez := heb.size
      refine wpList_app el_rentries rfl _ _ rfl w16.heap.size a9 M c9 _ rfl o9 (some ⟨g3, 0, none⟩) 1 1 [.int .i64 en.num, .int .i64 en.at_, .bool en.skip] rfl (fun h => by cases h) rfl hc3.src (fun u hu => by simp at hu; rcases hu with rfl | rfl | rfl <;> rfl) (by unfold maxLen; omega) (by omega) (by omega) ?_
      intro a9 c9 w17 o7 b7
      have b17 := heb.trans b7
      have eY : EntsAt w17 a9 Y := by
        rw [← HY.out]
        exact OwnL.ents (by rw [flatE_snoc]; exact o7)
      clear o7 b7 heb hez hc3 hg3 o9 hal
      have j17 : Below w16.heap.size w16 w17 := by (repeat (first | exact Below.refl _ _ | refine Below.alloc ?_ (by first | omega | (simp; done) | (simp; omega)) _ | refine Below.drew ?_ | refine Below.setCell ?_ (by first | omega | (simp; done) | (simp; omega)) _ | refine Below.trans ?_ (Below.mono (by assumption) (by first | omega | (simp; done) | (simp; omega)))))
      have t17 : Below w.heap.size w w17 := t16.trans (j17.mono t16.size)
      have r17 : Below w6.heap.size w6 w17 := r16.trans (j17.mono r16.size)
      replace hs := hs.below j17
      replace hr := hr.below j17
      replace q0 := below_cell j17 q0
      replace q1 := below_cell j17 q1
      replace q2 := below_cell j17 q2
      replace m0 := below_cell j17 m0
      replace m1 := below_cell j17 m1
      replace m2 := below_cell j17 m2
      replace lB := Nat.lt_of_lt_of_le lB j17.size
      replace lE := Nat.lt_of_lt_of_le lE j17.size
      replace eL := eL.below j17
      clear eL
      go_wp2_with fail
      go_at_call 42
      refine (bookM_eq a c ar cr p a9 Y (M + 1) c9 HYl _ E2 HE2 hs hr SM eY (by omega)).mono ?_
      rintro e w18 ⟨rfl, b18⟩
      have j18 : Below w17.heap.size w17 w18 := by (repeat (first | exact Below.refl _ _ | refine Below.alloc ?_ (by first | omega | (simp; done) | (simp; omega)) _ | refine Below.drew ?_ | refine Below.setCell ?_ (by first | omega | (simp; done) | (simp; omega)) _ | refine Below.trans ?_ (Below.mono (by assumption) (by first | omega | (simp; done) | (simp; omega)))))
      have t18 : Below w.heap.size w w18 := t17.trans (j18.mono t17.size)
      have r18 : Below w6.heap.size w6 w18 := r17.trans (j18.mono r17.size)
      replace hs := hs.below j18
      replace hr := hr.below j18
      replace q0 := below_cell j18 q0
      replace q1 := below_cell j18 q1
      replace q2 := below_cell j18 q2
      replace m0 := below_cell j18 m0
      replace m1 := below_cell j18 m1
      replace m2 := below_cell j18 m2
      replace lB := Nat.lt_of_lt_of_le lB j18.size
      replace lE := Nat.lt_of_lt_of_le lE j18.size
      replace eY := eY.below j18
      go_wp2_with fail
      go_at_call 19
      refine (awake_any _).mono ?_
      rintro e w19 ⟨rfl, b19⟩
      have j19 : Below w18.heap.size w18 w19 := by (repeat (first | exact Below.refl _ _ | refine Below.alloc ?_ (by first | omega | (simp; done) | (simp; omega)) _ | refine Below.drew ?_ | refine Below.setCell ?_ (by first | omega | (simp; done) | (simp; omega)) _ | refine Below.trans ?_ (Below.mono (by assumption) (by first | omega | (simp; done) | (simp; omega)))))
      have t19 : Below w.heap.size w w19 := t18.trans (j19.mono t18.size)
      have r19 : Below w6.heap.size w6 w19 := r18.trans (j19.mono r18.size)
      replace hs := hs.below j19
      replace hr := hr.below j19
      replace q0 := below_cell j19 q0
      replace q1 := below_cell j19 q1
      replace q2 := below_cell j19 q2
      replace m0 := below_cell j19 m0
      replace m1 := below_cell j19 m1
      replace m2 := below_cell j19 m2
      replace lB := Nat.lt_of_lt_of_le lB j19.size
      replace lE := Nat.lt_of_lt_of_le lE j19.size
      replace eY := eY.below j19
      go_wp2_with fail
      go_ret
      exact ⟨rfl, t19⟩

set_option maxRecDepth 100000 in
set_option maxHeartbeats 8000000 in
theorem left_a5 (a : Option Addr) (c : Nat) (ar : Option Addr) (cr : Nat) (p : Post) (aw : Option Addr) (ws : List Int) (cw : Nat) (m b o : Nat) (en : Ent) (w : World) (hs : IntsAt w a p.sends) (hr : RoutesAt w ar p.routes) (na : a = none → c = 0) (big : PostBig p) (hw : U16At w aw ws) (_ : aw = none → cw = 0) (lw0 : ws.length ≤ cw) (lw1 : cw ≤ maxLen) (hu : U16s ws) (hm : m ≤ 255) (hb : b ≤ 255) (ho : o ≤ 255) (hT : readyB p = true) (hz : explB p (keepB (leftL p ws m b) o (m % 6)) = true) (hk : bookErr p (leftL p ws m b ++ [en]) = 0) :
    Calls Try.prog 13 #[.agg #[.slice a p.sends.length c, .slice ar p.routes.length cr, .int .i64 p.pat], .slice aw ws.length cw, .int .u8 (m : Int), .int .u8 (b : Int), .int .u8 (o : Int), .agg #[.int .i64 en.num, .int .i64 en.at_, .bool en.skip]] w fun e w' => e = .returned (.bool true) ∧ Below w.heap.size w w' := by

  have HB := Lib.hid big
  have HT := Lib.hid hT
  have SM := Lib.hid (ready_small hT).1
  have HE := Lib.hid (ready_small hT).2
  have HU := Lib.hid hu
  have lS : p.sends.length ≤ 1000 := SM.out.1
  have lR : p.routes.length ≤ 1000 := SM.out.2
  have hpos : 0 < p.sends.length := List.length_pos_iff.2 (postErr_ok HE.out).2.2.2.1
  have lw : ws.length ≤ 9223372036854775807 := by unfold maxLen at lw1; omega
  unfold leftL at hz hk
  obtain ⟨M, hM⟩ : ∃ M, m % 6 = M := ⟨_, rfl⟩
  rw [hM] at hz hk
  have hM5 : M ≤ 5 := by omega
  have hM6 : M ≤ 1000 := by omega
  have HM6 := Lib.hid hM
  have hsh := pkT_shape HE.out ws
  have hst := pkT_small HE.out ws
  have hlen := pkT_len p ws
  obtain ⟨t, ht⟩ : ∃ t, pkT p ws = t := ⟨_, rfl⟩
  rw [ht] at hsh hst hlen hz hk
  have HTt := Lib.hid ht
  have HtN := Lib.hid hlen
  have ST := Lib.hid hst
  have HPO := Lib.hid (playOk_of HE.out hsh)
  have hJ := play_ok HE.out hsh
  have nb := noteB_book HE.out hsh ws b (show M ≤ 8 by omega)
  have nl := noteB_len (playF p t) ws b M
  obtain ⟨J, hJe⟩ : ∃ J, playF p t = J := ⟨_, rfl⟩
  rw [hJe] at hJ nb nl hz hk
  obtain ⟨l, hl⟩ : ∃ l, noteB J ws b M = l := ⟨_, rfl⟩
  rw [hl] at nb nl hz hk
  have HJe := Lib.hid hJe
  have Hl := Lib.hid hl
  have HnJ := Lib.hid hJ.len
  have HJ := Lib.hid hJ
  have Hb := Lib.hid nb
  have HM := Lib.hid nl
  have hod : oddOut p l = oddF p l := by unfold oddOut; rw [if_pos nb]
  have hlk := left_keep HE.out l
  have hlw := left_which HE.out l o
  obtain ⟨O, hO⟩ : ∃ O, oddF p l = O := ⟨_, rfl⟩
  have hri := left_rise HE.out l hO
  have hmo := odd_more HE.out l en
  rw [hO] at hod hlk hlw hmo
  obtain ⟨nO, hnO⟩ : ∃ n, O.length = n := ⟨_, rfl⟩
  rw [hnO] at hmo
  rw [nl] at hri hlk hlw
  have Hri := Lib.hid hri
  have hOl : nO ≤ 100 := by
    have e := tryF_odd HE.out l
    have := tryF_len p l (2 ^ l.length)
    rw [e, hO, hnO, nl] at this
    omega
  have Hod := Lib.hid hod
  have HnO := Lib.hid hnO
  have hBl : orF O 0 < 2 ^ 10 := Nat.lt_of_lt_of_le (orF_lt O 0 hri.1 (Nat.two_pow_pos _)) (Nat.pow_le_pow_right (by omega) (by omega))
  obtain ⟨B, hB⟩ : ∃ B, orF O 0 = B := ⟨_, rfl⟩
  rw [hB] at hlk hBl
  have HBo := Lib.hid hB
  have kb1 := keep_book nb B
  have kb2 := keep_book nb o
  rw [nl] at kb1 kb2
  obtain ⟨K, hK⟩ : ∃ K, keepB l B M = K := ⟨_, rfl⟩
  obtain ⟨K2, hK2⟩ : ∃ K, keepB l o M = K := ⟨_, rfl⟩
  obtain ⟨T1, hT1⟩ : ∃ K, outB B M = K := ⟨_, rfl⟩
  obtain ⟨T2, hT2⟩ : ∃ K, outB o M = K := ⟨_, rfl⟩
  have hkl := keepB_len l B M
  have hkl2 := keepB_len l o M
  rw [hK] at kb1 hlk hkl
  rw [hK2] at kb2 hlw hz hkl2
  rw [hT2] at hlw
  have hT2l : T2.length ≤ M := by rw [← hT2]; exact outB_len o M
  obtain ⟨nK, hnK⟩ : ∃ n, K.length = n := ⟨_, rfl⟩
  obtain ⟨nK2, hnK2⟩ : ∃ n, K2.length = n := ⟨_, rfl⟩
  obtain ⟨nT1, hnT1⟩ : ∃ n, T1.length = n := ⟨_, rfl⟩
  obtain ⟨nT2, hnT2⟩ : ∃ n, T2.length = n := ⟨_, rfl⟩
  rw [hnK] at hkl
  rw [hnK2] at hkl2
  rw [hnT2] at hT2l
  have HK := Lib.hid hK
  have HK2 := Lib.hid hK2
  have HT1 := Lib.hid hT1
  have HT2 := Lib.hid hT2
  have HnK := Lib.hid hnK
  have HnK2 := Lib.hid hnK2
  have HnT1 := Lib.hid hnT1
  have HnT2 := Lib.hid hnT2
  have HX1 : Hid (explErr p K = 0) := Lib.hid (by unfold explErr; rw [if_neg (by simpa using kb1), if_pos hlk])
  have HX2 : Hid (explErr p K2 = 0) := Lib.hid (by unfold explErr; rw [if_neg (by simpa using kb2), hz]; rfl)
  have Hls : Hid (lessB T2 O = false) := Lib.hid (hlw hz)
  obtain ⟨X1, hX1⟩ : ∃ X, explOut p K = X := ⟨_, rfl⟩
  obtain ⟨X2, hX2⟩ : ∃ X, explOut p K2 = X := ⟨_, rfl⟩
  obtain ⟨nX1, hnX1⟩ : ∃ n, X1.length = n := ⟨_, rfl⟩
  obtain ⟨nX2, hnX2⟩ : ∃ n, X2.length = n := ⟨_, rfl⟩
  have HXO1 := Lib.hid hX1
  have HXO2 := Lib.hid hX2
  have HnX1 := Lib.hid hnX1
  have HnX2 := Lib.hid hnX2
  obtain ⟨Y, hY⟩ : ∃ Y, l ++ [en] = Y := ⟨_, rfl⟩
  have hYl : Y.length = M + 1 := by rw [← hY]; simp [nl]
  rw [hY] at hk hmo
  have HY := Lib.hid hY
  have HYl := Lib.hid hYl
  have HE2 := Lib.hid hk
  have hod2 : oddOut p Y = oddF p Y := by unfold oddOut; rw [if_pos hk]
  obtain ⟨O2, hO2⟩ : ∃ O, oddF p Y = O := ⟨_, rfl⟩
  rw [hO2] at hod2 hmo
  obtain ⟨nO2, hnO2⟩ : ∃ n, O2.length = n := ⟨_, rfl⟩
  rw [hnO2] at hmo
  have Hod2 := Lib.hid hod2
  have HnO2 := Lib.hid hnO2
  have g1 : (nO : Int) ≤ (nO2 : Int) := by omega
  have g2 : (nO2 : Int) ≤ (nO : Int) + 1 := by omega
  have hwn : IntKind.i64.wrap ((nO : Int) + 1) = (nO : Int) + 1 := IntWalk.i64_in _ (by omega)
  clear hod2 hO2 hnO2
  have hwo : IntKind.i64.wrap (o : Int) = (o : Int) := IntWalk.i64_in _ (by omega)
  have ho10 : o < 1024 := by omega
  clear hT big hu lw0 lw1 hM hsh hst hlen ht hJ nb nl hJe hl hod hlk hlw hO hri hnO hB kb1 kb2 hK hK2 hT1 hT2 hnK hnK2 hnT1 hnT2 hX1 hX2 hnX1 hnX2 hY hYl hz hk hmo
  go_enter Try.func13, Try.ntmps13
  go_wp2_with fail
  go_at_call 44
  refine (ready_eq a c ar cr p _ true HT (hs.below (by (repeat (first | exact Below.refl _ _ | refine Below.alloc ?_ (by first | omega | (simp; done) | (simp; omega)) _ | refine Below.drew ?_ | refine Below.setCell ?_ (by first | omega | (simp; done) | (simp; omega)) _ | refine Below.trans ?_ (Below.mono (by assumption) (by first | omega | (simp; done) | (simp; omega))))))) (hr.below (by (repeat (first | exact Below.refl _ _ | refine Below.alloc ?_ (by first | omega | (simp; done) | (simp; omega)) _ | refine Below.drew ?_ | refine Below.setCell ?_ (by first | omega | (simp; done) | (simp; omega)) _ | refine Below.trans ?_ (Below.mono (by assumption) (by first | omega | (simp; done) | (simp; omega))))))) HB.out).mono ?_
  rintro e w1 ⟨rfl, b1⟩
  have t1 : Below w.heap.size w w1 := by (repeat (first | exact Below.refl _ _ | refine Below.alloc ?_ (by first | omega | (simp; done) | (simp; omega)) _ | refine Below.drew ?_ | refine Below.setCell ?_ (by first | omega | (simp; done) | (simp; omega)) _ | refine Below.trans ?_ (Below.mono (by assumption) (by first | omega | (simp; done) | (simp; omega)))))
  replace hs := hs.below t1
  replace hr := hr.below t1
  replace hw := hw.below t1
  have C0 : Cells w1 w.heap.size #[.slice a p.sends.length c, .slice ar p.routes.length cr, .int .i64 p.pat] 25 := ((Cells.new _ _ _).alloc _).below b1
  have C1 : Cells w1 (w.heap.size + 1) #[.int .i64 en.num, .int .i64 en.at_, .bool en.skip] 93 := (Cells.new' _ _ _ _ (by simp)).below b1
  have q0 := C0.cell 0
  have q1 := C0.cell 1
  have q2 := C0.cell 2
  have lB := C0.lt
  have m0 := C1.cell 0
  have m1 := C1.cell 1
  have m2 := C1.cell 2
  have lE := C1.lt
  simp at q0 q1 q2 m0 m1 m2
  clear C0 C1
  go_wp2_with fail
  (refine wp_region_seq 7 [] [7, 8] 180 [true, true, true, false, true, true, true] [TrV p.sends.length t] (by kernel_rfl) (by kernel_rfl) rfl (mono_cons (fun v w w' h hb => h.kept hb) mono_nil) ?_; simp only [pickOps, List.filterMap_cons, List.filterMap_nil, List.getElem?_toArray, List.getElem?_cons_succ, List.getElem?_cons_zero]; (repeat (refine wpFl_step _ rfl (fun w => (by go_simp; rfl)) ?_)); refine wpFl_nil ?_; simp only [maskOps, dummy, Act.put, List.setIfInBounds_toArray, List.set_cons_zero, List.set_cons_succ, List.take_succ_cons, List.take_zero, List.drop_succ_cons, List.drop_zero]; (repeat (refine wpQB_step (fun K hK => ?_); go_simp; first | (refine hK _ ?_; clear hK K) | (apply Exists.intro; refine ⟨fun ex => ?_, hK _ ?_⟩; (fail); clear hK K))); refine wpQB_nil ?_; simp only [relObl2, under, relEnd, and_true, List.nil_append, List.cons_append])
  refine ⟨fun e => ?_, fun e => ?_⟩
  · go_simp
    refine (pickedT_eq a c ar cr p aw ws cw _ t HTt (hs.below e.below) (hr.below e.below) (hw.below e.below) HU lw HE).mono ?_
    rintro _ _ ⟨⟨a2, c2, rfl, tA, nT⟩, hb⟩
    exact ⟨hb, a2, c2, rfl, tA⟩
  rintro v1 ⟨a2, c2, rfl, tA⟩
  simp only [Act.put, List.setIfInBounds_toArray, List.set_cons_zero, List.set_cons_succ]
  have b2 := e.below
  obtain ⟨w2, hwq⟩ : ∃ x : World, x = e.to := ⟨_, rfl⟩
  rw [← hwq] at b2 tA ⊢
  clear hwq e
  have j2 : Below w1.heap.size w1 w2 := by (repeat (first | exact Below.refl _ _ | refine Below.alloc ?_ (by first | omega | (simp; done) | (simp; omega)) _ | refine Below.drew ?_ | refine Below.setCell ?_ (by first | omega | (simp; done) | (simp; omega)) _ | refine Below.trans ?_ (Below.mono (by assumption) (by first | omega | (simp; done) | (simp; omega)))))
  have t2 : Below w.heap.size w w2 := t1.trans (j2.mono t1.size)
  replace hs := hs.below j2
  replace hr := hr.below j2
  replace hw := hw.below j2
  replace q0 := below_cell j2 q0
  replace q1 := below_cell j2 q1
  replace q2 := below_cell j2 q2
  replace m0 := below_cell j2 m0
  replace m1 := below_cell j2 m1
  replace m2 := below_cell j2 m2
  replace lB := Nat.lt_of_lt_of_le lB j2.size
  replace lE := Nat.lt_of_lt_of_le lE j2.size
  go_wp2_with fail
  go_at_call 49
  refine (notedB_eq a c ar cr p a2 t p.sends.length c2 aw ws cw m b _ J M l HM6 Hl HJe HtN HnJ hpos hs hr tA HPO hw HU lw hm hb lS HJ).mono ?_
  rintro e w3 ⟨⟨a3, c3, rfl, eL, nL⟩, b3⟩
  have j3 : Below w2.heap.size w2 w3 := by (repeat (first | exact Below.refl _ _ | refine Below.alloc ?_ (by first | omega | (simp; done) | (simp; omega)) _ | refine Below.drew ?_ | refine Below.setCell ?_ (by first | omega | (simp; done) | (simp; omega)) _ | refine Below.trans ?_ (Below.mono (by assumption) (by first | omega | (simp; done) | (simp; omega)))))
  have t3 : Below w.heap.size w w3 := t2.trans (j3.mono t2.size)
  replace hs := hs.below j3
  replace hr := hr.below j3
  replace hw := hw.below j3
  replace q0 := below_cell j3 q0
  replace q1 := below_cell j3 q1
  replace q2 := below_cell j3 q2
  replace m0 := below_cell j3 m0
  replace m1 := below_cell j3 m1
  replace m2 := below_cell j3 m2
  replace lB := Nat.lt_of_lt_of_le lB j3.size
  replace lE := Nat.lt_of_lt_of_le lE j3.size
  replace tA := tA.below j3
  clear tA hw
  go_wp2_with fail
  go_at_call 21
  refine (post_eq a c ar cr p _ hs hr SM na).mono ?_
  rintro e w4 ⟨⟨a4, c4, r4, d4, rfl, s4, o4⟩, b4⟩
  have j4 : Below w3.heap.size w3 w4 := by (repeat (first | exact Below.refl _ _ | refine Below.alloc ?_ (by first | omega | (simp; done) | (simp; omega)) _ | refine Below.drew ?_ | refine Below.setCell ?_ (by first | omega | (simp; done) | (simp; omega)) _ | refine Below.trans ?_ (Below.mono (by assumption) (by first | omega | (simp; done) | (simp; omega)))))
  have t4 : Below w.heap.size w w4 := t3.trans (j4.mono t3.size)
  replace hs := hs.below j4
  replace hr := hr.below j4
  replace q0 := below_cell j4 q0
  replace q1 := below_cell j4 q1
  replace q2 := below_cell j4 q2
  replace m0 := below_cell j4 m0
  replace m1 := below_cell j4 m1
  replace m2 := below_cell j4 m2
  replace lB := Nat.lt_of_lt_of_le lB j4.size
  replace lE := Nat.lt_of_lt_of_le lE j4.size
  replace eL := eL.below j4
  go_wp2_with fail
  go_at_call 41
  refine (entsM_eq a3 l M c3 HM _ eL hM6).mono ?_
  rintro e w5 ⟨⟨u4, v4, rfl, eB4⟩, b5⟩
  have j5 : Below w4.heap.size w4 w5 := by (repeat (first | exact Below.refl _ _ | refine Below.alloc ?_ (by first | omega | (simp; done) | (simp; omega)) _ | refine Below.drew ?_ | refine Below.setCell ?_ (by first | omega | (simp; done) | (simp; omega)) _ | refine Below.trans ?_ (Below.mono (by assumption) (by first | omega | (simp; done) | (simp; omega)))))
  have t5 : Below w.heap.size w w5 := t4.trans (j5.mono t4.size)
  replace hs := hs.below j5
  replace hr := hr.below j5
  replace q0 := below_cell j5 q0
  replace q1 := below_cell j5 q1
  replace q2 := below_cell j5 q2
  replace m0 := below_cell j5 m0
  replace m1 := below_cell j5 m1
  replace m2 := below_cell j5 m2
  replace lB := Nat.lt_of_lt_of_le lB j5.size
  replace lE := Nat.lt_of_lt_of_le lE j5.size
  replace eL := eL.below j5
  replace s4 := s4.below j5
  replace o4 := o4.below j5
  go_wp2_with fail
  go_at_call 40
  refine (oddM_eq a4 c4 r4 d4 p u4 l M v4 HM _ 0 O nO Hb Hod HnO s4 o4 SM eB4 hM6).mono ?_
  rintro e w6 ⟨⟨e4, f4, rfl, i4⟩, b6⟩
  have j6 : Below w5.heap.size w5 w6 := by (repeat (first | exact Below.refl _ _ | refine Below.alloc ?_ (by first | omega | (simp; done) | (simp; omega)) _ | refine Below.drew ?_ | refine Below.setCell ?_ (by first | omega | (simp; done) | (simp; omega)) _ | refine Below.trans ?_ (Below.mono (by assumption) (by first | omega | (simp; done) | (simp; omega)))))
  have t6 : Below w.heap.size w w6 := t5.trans (j6.mono t5.size)
  replace hs := hs.below j6
  replace hr := hr.below j6
  replace q0 := below_cell j6 q0
  replace q1 := below_cell j6 q1
  replace q2 := below_cell j6 q2
  replace m0 := below_cell j6 m0
  replace m1 := below_cell j6 m1
  replace m2 := below_cell j6 m2
  replace lB := Nat.lt_of_lt_of_le lB j6.size
  replace lE := Nat.lt_of_lt_of_le lE j6.size
  replace eL := eL.below j6
  replace s4 := s4.below j6
  replace o4 := o4.below j6
  replace eB4 := eB4.below j6
  clear s4 o4 eB4
  clear HTt HtN ST HPO HJe Hl HnJ HJ HM6 Hod Hb
  go_wp2_with fail
  go_loopw [16, 17] (fun x1 u wr => ∃ k : Nat, k ≤ nO ∧ u = .int .i64 k ∧ x1 = .int .i64 ((orF (O.take k) 0 : Nat) : Int) ∧ Below w6.heap.size w6 wr) (fun _ u _ => nO - (intOf u).toNat)
  case atStart => exact ⟨0, Nat.zero_le _, rfl, rfl, Below.refl _ _⟩
  case round =>
    obtain ⟨k, hk, rfl, rfl, hb6⟩ := hrel
    have z6 := hb6.size
    by_cases hkl : k < nO
    · have hkI : (k : Int) < (nO : Int) := by omega
      have hkO : k < O.length := by rw [HnO.out]; exact hkl
      have hX := Hri.out.1 _ (List.getElem_mem hkO)
      have hup := Hri.out.2
      have hot := orF_take O hkO 0
      have hbk : orF (O.take k) 0 < 2 ^ 10 := Nat.lt_of_lt_of_le (orF_lt (O.take k) 0 (fun x hx => Hri.out.1 x (List.mem_of_mem_take hx)) (Nat.two_pow_pos _)) (Nat.pow_le_pow_right (by omega) (show M ≤ 10 by omega))
      obtain ⟨g0, off0, rfl, hg0, s0⟩ := (i4.below hb6) k hkO
      replace s0 : wr.cell? ⟨g0, off0 + k, none⟩ = some (.int .i64 O[k]) := s0.trans (by simp [hkO])
      have hpv : ∀ j, j + 1 = k → ∃ y : Int, wr.cell? ⟨g0, off0 + j, none⟩ = some (.int .i64 y) ∧ y < O[k] := fun j hj => by
        subst hj
        have hj : j < O.length := by omega
        obtain ⟨g1, off1, hh, _, s1⟩ := (i4.below hb6) j hj
        cases hh
        exact ⟨O[j], s1.trans (by simp [hj]), hup j hkO⟩
      obtain ⟨x, hx⟩ : ∃ x, O[k] = x := ⟨_, rfl⟩
      rw [hx] at hX s0 hot hpv
      have hq : x.toNat ≤ 4 := by omega
      have n0 : ¬ (x < 0) := by omega
      have n1 : ¬ ((M : Int) ≤ x) := by omega
      have e0 : decide (x < 0) = false := decide_eq_false n0
      have e1 : decide ((M : Int) ≤ x) = false := decide_eq_false n1
      have hx0 : 0 ≤ x := hX.1
      have hcu : IntKind.u64.wrap x = x := by simp [IntKind.wrap, IntKind.bits, IntKind.signed]; omega
      have hsl := shl_small (show x.toNat ≤ 8 by omega)
      have h2q : 2 ^ x.toNat < 2 ^ 10 := Nat.pow_lt_pow_right (by omega) (by omega)
      have hor := or_small hbk h2q
      rw [← hot] at hor
      obtain ⟨S, hS⟩ : ∃ S, orF (O.take k) 0 = S := ⟨_, rfl⟩
      obtain ⟨S2, hS2⟩ : ∃ S, orF (O.take (k + 1)) 0 = S := ⟨_, rfl⟩
      obtain ⟨Q, hQ⟩ : ∃ Q : Nat, 2 ^ x.toNat = Q := ⟨_, rfl⟩
      rw [hQ] at hsl hor
      rw [hS] at hor ⊢
      rw [hS2] at hor
      have HS2 := Lib.hid hS2
      clear hS hS2 hQ hbk hot h2q hx hup hX
      rcases Nat.eq_zero_or_pos k with rfl | hkp
      · clear hpv
        simp only [Nat.add_zero] at s0
        go_wp2
        (refine wp_region_ext 30 (by kernel_rfl) (by kernel_rfl) ?_; simp only [List.take_succ_cons, List.take_zero, List.drop_succ_cons, List.drop_zero]; (repeat (go_big_quiet_step ((fail)))); refine wpQuiet_nil ?_; rintro _ ⟨ex, rfl⟩; have hex := ex.below; have hexz := ex.size; (try simp at hexz); (try (have hy0 : w.heap.size < ex.to.heap.size := by omega)); (try (have hy1 : w.heap.size + 1 < ex.to.heap.size := by omega)); (try (have hy2 : w.heap.size + 2 < ex.to.heap.size := by omega)))
        have b7 := ex.below
        obtain ⟨W7, hW7⟩ : ∃ x : World, x = ex.to := ⟨_, rfl⟩
        rw [← hW7] at b7 ⊢
        clear hW7
        have c7' := hb6.trans (b7.mono z6)
        replace s0 := below_cell b7 s0
        have hg7 := cell_ltK s0
        go_wp2
        go_roundw
        case rel => exact ⟨0 + 1, by omega, by go_num, by rw [HS2.out], c7'⟩
        case measure => simp [intOf]; omega
      · obtain ⟨j, hj⟩ : ∃ j, j + 1 = k := ⟨k - 1, by omega⟩
        obtain ⟨y, s1, hy⟩ := hpv j hj
        clear hpv
        have hk0 : (0 : Int) < (k : Int) := by omega
        have hw1 : IntKind.i64.wrap ((k : Int) - 1) = (j : Int) := by rw [IntWalk.i64_in _ (by omega)]; omega
        have hjI : (j : Int) < (nO : Int) := by omega
        have n2 : ¬ (x ≤ y) := by omega
        have e2 : decide (x ≤ y) = false := decide_eq_false n2
        go_wp2
        (refine wp_region_ext 30 (by kernel_rfl) (by kernel_rfl) ?_; simp only [List.take_succ_cons, List.take_zero, List.drop_succ_cons, List.drop_zero]; (repeat (go_big_quiet_step ((fail)))); refine wpQuiet_nil ?_; rintro _ ⟨ex, rfl⟩; have hex := ex.below; have hexz := ex.size; (try simp at hexz); (try (have hy0 : w.heap.size < ex.to.heap.size := by omega)); (try (have hy1 : w.heap.size + 1 < ex.to.heap.size := by omega)); (try (have hy2 : w.heap.size + 2 < ex.to.heap.size := by omega)))
        have b7 := ex.below
        obtain ⟨W7, hW7⟩ : ∃ x : World, x = ex.to := ⟨_, rfl⟩
        rw [← hW7] at b7 ⊢
        clear hW7
        have c7' := hb6.trans (b7.mono z6)
        replace s0 := below_cell b7 s0
        have hg7 := cell_ltK s0
        go_wp2
        go_roundw
        case rel => exact ⟨k + 1, by omega, by go_num, by rw [HS2.out], c7'⟩
        case measure => simp [intOf]; omega
    · have hkI : ¬ ((k : Int) < (nO : Int)) := by omega
      obtain rfl : k = nO := by omega
      rw [show O.take k = O by rw [← HnO.out, List.take_length], HBo.out]
      clear hk hkl
      have b7 := hb6
      obtain ⟨w7, hwq⟩ : ∃ x : World, x = wr := ⟨_, rfl⟩
      subst hwq
      have j7 : Below w6.heap.size w6 w7 := by (repeat (first | exact Below.refl _ _ | refine Below.alloc ?_ (by first | omega | (simp; done) | (simp; omega)) _ | refine Below.drew ?_ | refine Below.setCell ?_ (by first | omega | (simp; done) | (simp; omega)) _ | refine Below.trans ?_ (Below.mono (by assumption) (by first | omega | (simp; done) | (simp; omega)))))
      have t7 : Below w.heap.size w w7 := t6.trans (j7.mono t6.size)
      replace hs := hs.below j7
      replace hr := hr.below j7
      replace q0 := below_cell j7 q0
      replace q1 := below_cell j7 q1
      replace q2 := below_cell j7 q2
      replace m0 := below_cell j7 m0
      replace m1 := below_cell j7 m1
      replace m2 := below_cell j7 m2
      replace lB := Nat.lt_of_lt_of_le lB j7.size
      replace lE := Nat.lt_of_lt_of_le lE j7.size
      replace eL := eL.below j7
      replace i4 := i4.below j7
      have r7 : Below w6.heap.size w6 w7 := j7
      go_wp2_with fail
      go_at_call 50
      refine (someM_eq a3 l M c3 HM B K T1 nK nT1 HK HT1 HnK HnT1 _ eL (by omega) hBl).mono ?_
      rintro e w8 ⟨⟨a5, c5, x5, y5, rfl, eK, iT, nT⟩, b8⟩
      have j8 : Below w7.heap.size w7 w8 := by (repeat (first | exact Below.refl _ _ | refine Below.alloc ?_ (by first | omega | (simp; done) | (simp; omega)) _ | refine Below.drew ?_ | refine Below.setCell ?_ (by first | omega | (simp; done) | (simp; omega)) _ | refine Below.trans ?_ (Below.mono (by assumption) (by first | omega | (simp; done) | (simp; omega)))))
      have t8 : Below w.heap.size w w8 := t7.trans (j8.mono t7.size)
      have r8 : Below w6.heap.size w6 w8 := r7.trans (j8.mono r7.size)
      replace hs := hs.below j8
      replace hr := hr.below j8
      replace q0 := below_cell j8 q0
      replace q1 := below_cell j8 q1
      replace q2 := below_cell j8 q2
      replace m0 := below_cell j8 m0
      replace m1 := below_cell j8 m1
      replace m2 := below_cell j8 m2
      replace lB := Nat.lt_of_lt_of_le lB j8.size
      replace lE := Nat.lt_of_lt_of_le lE j8.size
      replace eL := eL.below j8
      replace i4 := i4.below j8
      clear iT nT
      go_wp2_with fail
      go_at_call 50
      refine (someM_eq a3 l M c3 HM o K2 T2 nK2 nT2 HK2 HT2 HnK2 HnT2 _ eL (by omega) ho10).mono ?_
      rintro e w9 ⟨⟨a6, c6, x6, y6, rfl, eK2, iT2, nT2'⟩, b9⟩
      have j9 : Below w8.heap.size w8 w9 := by (repeat (first | exact Below.refl _ _ | refine Below.alloc ?_ (by first | omega | (simp; done) | (simp; omega)) _ | refine Below.drew ?_ | refine Below.setCell ?_ (by first | omega | (simp; done) | (simp; omega)) _ | refine Below.trans ?_ (Below.mono (by assumption) (by first | omega | (simp; done) | (simp; omega)))))
      have t9 : Below w.heap.size w w9 := t8.trans (j9.mono t8.size)
      have r9 : Below w6.heap.size w6 w9 := r8.trans (j9.mono r8.size)
      replace hs := hs.below j9
      replace hr := hr.below j9
      replace q0 := below_cell j9 q0
      replace q1 := below_cell j9 q1
      replace q2 := below_cell j9 q2
      replace m0 := below_cell j9 m0
      replace m1 := below_cell j9 m1
      replace m2 := below_cell j9 m2
      replace lB := Nat.lt_of_lt_of_le lB j9.size
      replace lE := Nat.lt_of_lt_of_le lE j9.size
      replace eL := eL.below j9
      replace i4 := i4.below j9
      replace eK := eK.below j9
      go_wp2_with fail
      go_at_call 21
      refine (post_eq a c ar cr p _ hs hr SM na).mono ?_
      rintro e w10 ⟨⟨a7, c7, r7, d7, rfl, s7, o7⟩, b10⟩
      have j10 : Below w9.heap.size w9 w10 := by (repeat (first | exact Below.refl _ _ | refine Below.alloc ?_ (by first | omega | (simp; done) | (simp; omega)) _ | refine Below.drew ?_ | refine Below.setCell ?_ (by first | omega | (simp; done) | (simp; omega)) _ | refine Below.trans ?_ (Below.mono (by assumption) (by first | omega | (simp; done) | (simp; omega)))))
      have t10 : Below w.heap.size w w10 := t9.trans (j10.mono t9.size)
      have r10 : Below w6.heap.size w6 w10 := r9.trans (j10.mono r9.size)
      replace hs := hs.below j10
      replace hr := hr.below j10
      replace q0 := below_cell j10 q0
      replace q1 := below_cell j10 q1
      replace q2 := below_cell j10 q2
      replace m0 := below_cell j10 m0
      replace m1 := below_cell j10 m1
      replace m2 := below_cell j10 m2
      replace lB := Nat.lt_of_lt_of_le lB j10.size
      replace lE := Nat.lt_of_lt_of_le lE j10.size
      replace eL := eL.below j10
      replace i4 := i4.below j10
      replace eK := eK.below j10
      replace eK2 := eK2.below j10
      replace iT2 := iT2.below j10
      go_wp2_with fail
      go_at_call 41
      refine (entsM_eq a5 K nK c5 HnK _ eK (by omega)).mono ?_
      rintro e w11 ⟨⟨u7, v7, rfl, eB7⟩, b11⟩
      have j11 : Below w10.heap.size w10 w11 := by (repeat (first | exact Below.refl _ _ | refine Below.alloc ?_ (by first | omega | (simp; done) | (simp; omega)) _ | refine Below.drew ?_ | refine Below.setCell ?_ (by first | omega | (simp; done) | (simp; omega)) _ | refine Below.trans ?_ (Below.mono (by assumption) (by first | omega | (simp; done) | (simp; omega)))))
      have t11 : Below w.heap.size w w11 := t10.trans (j11.mono t10.size)
      have r11 : Below w6.heap.size w6 w11 := r10.trans (j11.mono r10.size)
      replace hs := hs.below j11
      replace hr := hr.below j11
      replace q0 := below_cell j11 q0
      replace q1 := below_cell j11 q1
      replace q2 := below_cell j11 q2
      replace m0 := below_cell j11 m0
      replace m1 := below_cell j11 m1
      replace m2 := below_cell j11 m2
      replace lB := Nat.lt_of_lt_of_le lB j11.size
      replace lE := Nat.lt_of_lt_of_le lE j11.size
      replace eL := eL.below j11
      replace i4 := i4.below j11
      replace eK := eK.below j11
      replace eK2 := eK2.below j11
      replace iT2 := iT2.below j11
      replace s7 := s7.below j11
      replace o7 := o7.below j11
      go_wp2_with fail
      go_at_call 48
      refine (explM_eq a7 c7 r7 d7 p u7 K nK v7 HnK _ 0 X1 nX1 HX1 HXO1 HnX1 s7 o7 SM eB7 (by omega)).mono ?_
      rintro e w12 ⟨⟨e7, f7, rfl, tX, nx7⟩, b12⟩
      have j12 : Below w11.heap.size w11 w12 := by (repeat (first | exact Below.refl _ _ | refine Below.alloc ?_ (by first | omega | (simp; done) | (simp; omega)) _ | refine Below.drew ?_ | refine Below.setCell ?_ (by first | omega | (simp; done) | (simp; omega)) _ | refine Below.trans ?_ (Below.mono (by assumption) (by first | omega | (simp; done) | (simp; omega)))))
      have t12 : Below w.heap.size w w12 := t11.trans (j12.mono t11.size)
      have r12 : Below w6.heap.size w6 w12 := r11.trans (j12.mono r11.size)
      replace hs := hs.below j12
      replace hr := hr.below j12
      replace q0 := below_cell j12 q0
      replace q1 := below_cell j12 q1
      replace q2 := below_cell j12 q2
      replace m0 := below_cell j12 m0
      replace m1 := below_cell j12 m1
      replace m2 := below_cell j12 m2
      replace lB := Nat.lt_of_lt_of_le lB j12.size
      replace lE := Nat.lt_of_lt_of_le lE j12.size
      replace eL := eL.below j12
      replace i4 := i4.below j12
      replace eK := eK.below j12
      replace eK2 := eK2.below j12
      replace iT2 := iT2.below j12
      replace s7 := s7.below j12
      replace o7 := o7.below j12
      replace eB7 := eB7.below j12
      clear tX nx7
      clear s7 o7 eB7 eK
      go_wp2_with fail
      go_at_call 21
      refine (post_eq a c ar cr p _ hs hr SM na).mono ?_
      rintro e w13 ⟨⟨a8, c8, r8, d8, rfl, s8, o8⟩, b13⟩
      have j13 : Below w12.heap.size w12 w13 := by (repeat (first | exact Below.refl _ _ | refine Below.alloc ?_ (by first | omega | (simp; done) | (simp; omega)) _ | refine Below.drew ?_ | refine Below.setCell ?_ (by first | omega | (simp; done) | (simp; omega)) _ | refine Below.trans ?_ (Below.mono (by assumption) (by first | omega | (simp; done) | (simp; omega)))))
      have t13 : Below w.heap.size w w13 := t12.trans (j13.mono t12.size)
      have r13 : Below w6.heap.size w6 w13 := r12.trans (j13.mono r12.size)
      replace hs := hs.below j13
      replace hr := hr.below j13
      replace q0 := below_cell j13 q0
      replace q1 := below_cell j13 q1
      replace q2 := below_cell j13 q2
      replace m0 := below_cell j13 m0
      replace m1 := below_cell j13 m1
      replace m2 := below_cell j13 m2
      replace lB := Nat.lt_of_lt_of_le lB j13.size
      replace lE := Nat.lt_of_lt_of_le lE j13.size
      replace eL := eL.below j13
      replace i4 := i4.below j13
      replace eK2 := eK2.below j13
      replace iT2 := iT2.below j13
      go_wp2_with fail
      go_at_call 41
      refine (entsM_eq a6 K2 nK2 c6 HnK2 _ eK2 (by omega)).mono ?_
      rintro e w14 ⟨⟨u8, v8, rfl, eB8⟩, b14⟩
      have j14 : Below w13.heap.size w13 w14 := by (repeat (first | exact Below.refl _ _ | refine Below.alloc ?_ (by first | omega | (simp; done) | (simp; omega)) _ | refine Below.drew ?_ | refine Below.setCell ?_ (by first | omega | (simp; done) | (simp; omega)) _ | refine Below.trans ?_ (Below.mono (by assumption) (by first | omega | (simp; done) | (simp; omega)))))
      have t14 : Below w.heap.size w w14 := t13.trans (j14.mono t13.size)
      have r14 : Below w6.heap.size w6 w14 := r13.trans (j14.mono r13.size)
      replace hs := hs.below j14
      replace hr := hr.below j14
      replace q0 := below_cell j14 q0
      replace q1 := below_cell j14 q1
      replace q2 := below_cell j14 q2
      replace m0 := below_cell j14 m0
      replace m1 := below_cell j14 m1
      replace m2 := below_cell j14 m2
      replace lB := Nat.lt_of_lt_of_le lB j14.size
      replace lE := Nat.lt_of_lt_of_le lE j14.size
      replace eL := eL.below j14
      replace i4 := i4.below j14
      replace eK2 := eK2.below j14
      replace iT2 := iT2.below j14
      replace s8 := s8.below j14
      replace o8 := o8.below j14
      go_wp2_with fail
      go_at_call 48
      refine (explM_eq a8 c8 r8 d8 p u8 K2 nK2 v8 HnK2 _ 0 X2 nX2 HX2 HXO2 HnX2 s8 o8 SM eB8 (by omega)).mono ?_
      rintro e w15 ⟨⟨e8, f8, rfl, tX, nx8⟩, b15⟩
      have j15 : Below w14.heap.size w14 w15 := by (repeat (first | exact Below.refl _ _ | refine Below.alloc ?_ (by first | omega | (simp; done) | (simp; omega)) _ | refine Below.drew ?_ | refine Below.setCell ?_ (by first | omega | (simp; done) | (simp; omega)) _ | refine Below.trans ?_ (Below.mono (by assumption) (by first | omega | (simp; done) | (simp; omega)))))
      have t15 : Below w.heap.size w w15 := t14.trans (j15.mono t14.size)
      have r15 : Below w6.heap.size w6 w15 := r14.trans (j15.mono r14.size)
      replace hs := hs.below j15
      replace hr := hr.below j15
      replace q0 := below_cell j15 q0
      replace q1 := below_cell j15 q1
      replace q2 := below_cell j15 q2
      replace m0 := below_cell j15 m0
      replace m1 := below_cell j15 m1
      replace m2 := below_cell j15 m2
      replace lB := Nat.lt_of_lt_of_le lB j15.size
      replace lE := Nat.lt_of_lt_of_le lE j15.size
      replace eL := eL.below j15
      replace i4 := i4.below j15
      replace eK2 := eK2.below j15
      replace iT2 := iT2.below j15
      replace s8 := s8.below j15
      replace o8 := o8.below j15
      replace eB8 := eB8.below j15
      clear tX nx8
      clear s8 o8 eB8 eK2
      go_wp2_with fail
      go_at_call 51
      refine (less_eq x6 T2 nT2 y6 HnT2 e4 O k f4 HnO false Hls _ iT2 i4 (by omega) (by omega)).mono ?_
      rintro e w16 ⟨rfl, b16⟩
      have j16 : Below w15.heap.size w15 w16 := by (repeat (first | exact Below.refl _ _ | refine Below.alloc ?_ (by first | omega | (simp; done) | (simp; omega)) _ | refine Below.drew ?_ | refine Below.setCell ?_ (by first | omega | (simp; done) | (simp; omega)) _ | refine Below.trans ?_ (Below.mono (by assumption) (by first | omega | (simp; done) | (simp; omega)))))
      have t16 : Below w.heap.size w w16 := t15.trans (j16.mono t15.size)
      have r16 : Below w6.heap.size w6 w16 := r15.trans (j16.mono r15.size)
      replace hs := hs.below j16
      replace hr := hr.below j16
      replace q0 := below_cell j16 q0
      replace q1 := below_cell j16 q1
      replace q2 := below_cell j16 q2
      replace m0 := below_cell j16 m0
      replace m1 := below_cell j16 m1
      replace m2 := below_cell j16 m2
      replace lB := Nat.lt_of_lt_of_le lB j16.size
      replace lE := Nat.lt_of_lt_of_le lE j16.size
      replace eL := eL.below j16
      replace i4 := i4.below j16
      replace iT2 := iT2.below j16
      clear iT2 i4
      have hal : a3 = none → M = 0 ∧ c3 = 0 := fun h => by
        refine ⟨?_, nL h⟩
        subst h
        rcases Nat.eq_zero_or_pos M with e | e
        · exact e
        · obtain ⟨b, off, hh, _⟩ := eL 0 (by rw [HM.out]; exact e)
          cases hh
      go_wp2_with fail
      (refine wp_region_seq 5 [] [5, 6] 180 [false, true, false, true, false] [LitV w16.heap.size 0 #[] 93, OwnV 93 3 w16.heap.size M (flatE l), LitV w16.heap.size 1 #[.int .i64 en.num, .int .i64 en.at_, .bool en.skip] 93] (by kernel_rfl) (by kernel_rfl) rfl (mono_cons (fun v w w' h hb => h.kept hb) (mono_cons (fun v w w' h hb => h.kept hb) (mono_cons (fun v w w' h hb => h.kept hb) mono_nil))) ?_; simp only [pickOps, List.filterMap_cons, List.filterMap_nil, List.getElem?_toArray, List.getElem?_cons_succ, List.getElem?_cons_zero]; (repeat (refine wpFl_step _ rfl (fun w => (by go_simp; rfl)) ?_)); refine wpFl_nil ?_; simp only [maskOps, dummy, Act.put, List.setIfInBounds_toArray, List.set_cons_zero, List.set_cons_succ, List.take_succ_cons, List.take_zero, List.drop_succ_cons, List.drop_zero]; (repeat (refine wpQB_step (fun K hK => ?_); go_simp; first | (refine hK _ ?_; clear hK K) | (apply Exists.intro; refine ⟨fun ex => ?_, hK _ ?_⟩; (fail); clear hK K))); refine wpQB_nil ?_; simp only [relObl2, under, relEnd, and_true, List.nil_append, List.cons_append])
      refine ⟨⟨fun e => ?_, fun e v1 h1 => ?_, fun e v1 h1 v2 h2 => ?_⟩, fun e => ?_⟩
      · go_simp
        exact ⟨(Below.refl _ _).alloc (Nat.le_refl _) _, e.to.heap.size, rfl, e.size, Cells.new _ _ _⟩
      · obtain ⟨g, rfl, hg, hc⟩ := h1 (by kernel_rfl)
        exact gives_app0 el_rentries e.to w16.heap.size g _ _ rfl rfl hc hg a3 M c3 (flatE l) rfl hal (by rw [flatE_len, HM.out]) (SrcAt.ents (eL.below e.below)) (by unfold maxLen; omega) (by omega)
      · go_simp
        exact ⟨(Below.refl _ _).alloc (Nat.le_refl _) _, e.to.heap.size, rfl, e.size, Cells.new _ _ _⟩
      rintro v1 - v2 ⟨a9, c9, rfl, o9⟩ v3 ⟨g3, rfl, hg3, hc3⟩
      simp only [Act.put, List.setIfInBounds_toArray, List.set_cons_zero, List.set_cons_succ]
      have heb := e.below
      obtain ⟨x9, hx9⟩ : ∃ x : World, x = e.to := ⟨_, rfl⟩
      rw [← hx9] at heb hc3 o9 ⊢
      clear hx9 e
      have hez := heb.size
      refine wpList_app el_rentries rfl _ _ rfl w16.heap.size a9 M c9 _ rfl o9 (some ⟨g3, 0, none⟩) 1 1 [.int .i64 en.num, .int .i64 en.at_, .bool en.skip] rfl (fun h => by cases h) rfl hc3.src (fun u hu => by simp at hu; rcases hu with rfl | rfl | rfl <;> rfl) (by unfold maxLen; omega) (by omega) (by omega) ?_
      intro a9 c9 w17 o7 b7
      have b17 := heb.trans b7
      have eY : EntsAt w17 a9 Y := by
        rw [← HY.out]
        exact OwnL.ents (by rw [flatE_snoc]; exact o7)
      clear o7 b7 heb hez hc3 hg3 o9 hal
      have j17 : Below w16.heap.size w16 w17 := by (repeat (first | exact Below.refl _ _ | refine Below.alloc ?_ (by first | omega | (simp; done) | (simp; omega)) _ | refine Below.drew ?_ | refine Below.setCell ?_ (by first | omega | (simp; done) | (simp; omega)) _ | refine Below.trans ?_ (Below.mono (by assumption) (by first | omega | (simp; done) | (simp; omega)))))
      have t17 : Below w.heap.size w w17 := t16.trans (j17.mono t16.size)
      have r17 : Below w6.heap.size w6 w17 := r16.trans (j17.mono r16.size)
      replace hs := hs.below j17
      replace hr := hr.below j17
      replace q0 := below_cell j17 q0
      replace q1 := below_cell j17 q1
      replace q2 := below_cell j17 q2
      replace m0 := below_cell j17 m0
      replace m1 := below_cell j17 m1
      replace m2 := below_cell j17 m2
      replace lB := Nat.lt_of_lt_of_le lB j17.size
      replace lE := Nat.lt_of_lt_of_le lE j17.size
      replace eL := eL.below j17
      clear eL
      go_wp2_with fail
      go_at_call 42
      refine (bookM_eq a c ar cr p a9 Y (M + 1) c9 HYl _ 0 HE2 hs hr SM eY (by omega)).mono ?_
      rintro e w18 ⟨rfl, b18⟩
      have j18 : Below w17.heap.size w17 w18 := by (repeat (first | exact Below.refl _ _ | refine Below.alloc ?_ (by first | omega | (simp; done) | (simp; omega)) _ | refine Below.drew ?_ | refine Below.setCell ?_ (by first | omega | (simp; done) | (simp; omega)) _ | refine Below.trans ?_ (Below.mono (by assumption) (by first | omega | (simp; done) | (simp; omega)))))
      have t18 : Below w.heap.size w w18 := t17.trans (j18.mono t17.size)
      have r18 : Below w6.heap.size w6 w18 := r17.trans (j18.mono r17.size)
      replace hs := hs.below j18
      replace hr := hr.below j18
      replace q0 := below_cell j18 q0
      replace q1 := below_cell j18 q1
      replace q2 := below_cell j18 q2
      replace m0 := below_cell j18 m0
      replace m1 := below_cell j18 m1
      replace m2 := below_cell j18 m2
      replace lB := Nat.lt_of_lt_of_le lB j18.size
      replace lE := Nat.lt_of_lt_of_le lE j18.size
      replace eY := eY.below j18
      go_wp2_with fail
      go_at_call 21
      refine (post_eq a c ar cr p _ hs hr SM na).mono ?_
      rintro e w19 ⟨⟨a10, c10, r10, d10, rfl, s10, o10⟩, b19⟩
      have j19 : Below w18.heap.size w18 w19 := by (repeat (first | exact Below.refl _ _ | refine Below.alloc ?_ (by first | omega | (simp; done) | (simp; omega)) _ | refine Below.drew ?_ | refine Below.setCell ?_ (by first | omega | (simp; done) | (simp; omega)) _ | refine Below.trans ?_ (Below.mono (by assumption) (by first | omega | (simp; done) | (simp; omega)))))
      have t19 : Below w.heap.size w w19 := t18.trans (j19.mono t18.size)
      have r19 : Below w6.heap.size w6 w19 := r18.trans (j19.mono r18.size)
      replace hs := hs.below j19
      replace hr := hr.below j19
      replace q0 := below_cell j19 q0
      replace q1 := below_cell j19 q1
      replace q2 := below_cell j19 q2
      replace m0 := below_cell j19 m0
      replace m1 := below_cell j19 m1
      replace m2 := below_cell j19 m2
      replace lB := Nat.lt_of_lt_of_le lB j19.size
      replace lE := Nat.lt_of_lt_of_le lE j19.size
      replace eY := eY.below j19
      go_wp2_with fail
      go_at_call 41
      refine (entsM_eq a9 Y (M + 1) c9 HYl _ eY (by omega)).mono ?_
      rintro e w20 ⟨⟨u10, v10, rfl, eB10⟩, b20⟩
      have j20 : Below w19.heap.size w19 w20 := by (repeat (first | exact Below.refl _ _ | refine Below.alloc ?_ (by first | omega | (simp; done) | (simp; omega)) _ | refine Below.drew ?_ | refine Below.setCell ?_ (by first | omega | (simp; done) | (simp; omega)) _ | refine Below.trans ?_ (Below.mono (by assumption) (by first | omega | (simp; done) | (simp; omega)))))
      have t20 : Below w.heap.size w w20 := t19.trans (j20.mono t19.size)
      have r20 : Below w6.heap.size w6 w20 := r19.trans (j20.mono r19.size)
      replace hs := hs.below j20
      replace hr := hr.below j20
      replace q0 := below_cell j20 q0
      replace q1 := below_cell j20 q1
      replace q2 := below_cell j20 q2
      replace m0 := below_cell j20 m0
      replace m1 := below_cell j20 m1
      replace m2 := below_cell j20 m2
      replace lB := Nat.lt_of_lt_of_le lB j20.size
      replace lE := Nat.lt_of_lt_of_le lE j20.size
      replace eY := eY.below j20
      replace s10 := s10.below j20
      replace o10 := o10.below j20
      go_wp2_with fail
      go_at_call 40
      refine (oddM_eq a10 c10 r10 d10 p u10 Y (M + 1) v10 HYl _ 0 O2 nO2 HE2 Hod2 HnO2 s10 o10 SM eB10 (by omega)).mono ?_
      rintro e w21 ⟨⟨e10, f10, rfl, i10⟩, b21⟩
      have j21 : Below w20.heap.size w20 w21 := by (repeat (first | exact Below.refl _ _ | refine Below.alloc ?_ (by first | omega | (simp; done) | (simp; omega)) _ | refine Below.drew ?_ | refine Below.setCell ?_ (by first | omega | (simp; done) | (simp; omega)) _ | refine Below.trans ?_ (Below.mono (by assumption) (by first | omega | (simp; done) | (simp; omega)))))
      have t21 : Below w.heap.size w w21 := t20.trans (j21.mono t20.size)
      have r21 : Below w6.heap.size w6 w21 := r20.trans (j21.mono r20.size)
      replace hs := hs.below j21
      replace hr := hr.below j21
      replace q0 := below_cell j21 q0
      replace q1 := below_cell j21 q1
      replace q2 := below_cell j21 q2
      replace m0 := below_cell j21 m0
      replace m1 := below_cell j21 m1
      replace m2 := below_cell j21 m2
      replace lB := Nat.lt_of_lt_of_le lB j21.size
      replace lE := Nat.lt_of_lt_of_le lE j21.size
      replace eY := eY.below j21
      replace s10 := s10.below j21
      replace o10 := o10.below j21
      replace eB10 := eB10.below j21
      clear s10 o10 eB10 eY
      clear i10
      go_wp2_with fail
      go_at_call 19
      refine (awake_any _).mono ?_
      rintro e w22 ⟨rfl, b22⟩
      have j22 : Below w21.heap.size w21 w22 := by (repeat (first | exact Below.refl _ _ | refine Below.alloc ?_ (by first | omega | (simp; done) | (simp; omega)) _ | refine Below.drew ?_ | refine Below.setCell ?_ (by first | omega | (simp; done) | (simp; omega)) _ | refine Below.trans ?_ (Below.mono (by assumption) (by first | omega | (simp; done) | (simp; omega)))))
      have t22 : Below w.heap.size w w22 := t21.trans (j22.mono t21.size)
      have r22 : Below w6.heap.size w6 w22 := r21.trans (j22.mono r21.size)
      replace hs := hs.below j22
      replace hr := hr.below j22
      replace q0 := below_cell j22 q0
      replace q1 := below_cell j22 q1
      replace q2 := below_cell j22 q2
      replace m0 := below_cell j22 m0
      replace m1 := below_cell j22 m1
      replace m2 := below_cell j22 m2
      replace lB := Nat.lt_of_lt_of_le lB j22.size
      replace lE := Nat.lt_of_lt_of_le lE j22.size
      go_wp2_with fail
      go_ret
      exact ⟨rfl, t22⟩

theorem left_walk (a : Option Addr) (c : Nat) (ar : Option Addr) (cr : Nat) (p : Post) (aw : Option Addr) (ws : List Int) (cw : Nat) (y1 y2 y3 : Int) (en : Ent) (w : World) (hs : IntsAt w a p.sends) (hr : RoutesAt w ar p.routes) (na : a = none → c = 0) (big : PostBig p) (hw : U16At w aw ws) (_ : aw = none → cw = 0) (lw0 : ws.length ≤ cw) (lw1 : cw ≤ maxLen) (hu : U16s ws) (hy1 : (Lit.int .u8 y1).wf = true) (hy2 : (Lit.int .u8 y2).wf = true) (hy3 : (Lit.int .u8 y3).wf = true) :
    Calls Try.prog 13 #[.agg #[.slice a p.sends.length c, .slice ar p.routes.length cr, .int .i64 p.pat], .slice aw ws.length cw, .int .u8 y1, .int .u8 y2, .int .u8 y3, .agg #[.int .i64 en.num, .int .i64 en.at_, .bool en.skip]] w fun e w' => e = .returned (.bool true) ∧ Below w.heap.size w w' := by
  obtain ⟨m, rfl, hm⟩ := u8_bd hy1
  obtain ⟨b, rfl, hb⟩ := u8_bd hy2
  obtain ⟨o, rfl, ho⟩ := u8_bd hy3
  cases hT : readyB p
  · exact left_a1 a c ar cr p aw ws cw m b o en w hs hr na big hw ‹_› lw0 lw1 hu hm hb ho hT
  · cases hz : explB p (keepB (leftL p ws m b) o (m % 6))
    · by_cases hk : bookErr p (leftL p ws m b ++ [en]) = 0
      · exact left_a3 a c ar cr p aw ws cw m b o en w hs hr na big hw ‹_› lw0 lw1 hu hm hb ho hT hz hk
      · exact left_a2 a c ar cr p aw ws cw m b o en w hs hr na big hw ‹_› lw0 lw1 hu hm hb ho hT hz hk
    · by_cases hk : bookErr p (leftL p ws m b ++ [en]) = 0
      · exact left_a5 a c ar cr p aw ws cw m b o en w hs hr na big hw ‹_› lw0 lw1 hu hm hb ho hT hz hk
      · exact left_a4 a c ar cr p aw ws cw m b o en w hs hr na big hw ‹_› lw0 lw1 hu hm hb ho hT hz hk
end Go.Proofs.Ytfclemnkcpadpaa
