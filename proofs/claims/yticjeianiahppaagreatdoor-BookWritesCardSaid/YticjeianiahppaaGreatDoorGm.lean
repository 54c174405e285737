/- book: Recover -/
import Derived.Test.YticjeianiahppaaGreatDoorGl
import Derived.Test.YticjeianiahppaaGreatDoorDC
import Derived.ControlIn
import Derived.Scope
import Derived.Maps.AppendAt
namespace Go.Proofs.YticjeianiahppaaGreatDoor
set_option linter.unusedVariables false
set_option linter.unusedSimpArgs false
set_option linter.unnecessarySimpa false
open Go.RowKit Go.Flow Go.Shelf
attribute [local go_sem] Oper.semAt_some
/-- Lines as values. -/
def strsV (l : List (List UInt8)) : List Value := l.map fun x => .string ⟨x.toArray⟩
theorem records_mk (a : Option Addr) (m c : Nat) (w : World) : Calls Tryz.prog 123 #[.slice a m c] w fun e w' => e = .returned (.func (.func 178) #[] #[.pointer (some ⟨w.heap.size, 0, none⟩)]) ∧ w.alloc (.cells #[.slice a m c] 128) = w' := by
  go_enter Tryz.func123, Tryz.ntmps123
  go_wp2
  go_ret
  exact ⟨rfl, rfl⟩
theorem results_cells2 {fn : Func} {c c' : Tmp} {T T' : TypeId} {tmps : Array Value} {P : Program} {w : World} {a a' : Addr} {v v' : Value} (h : fn.results = #[.cell c T, .cell c' T']) (ha : tmps.getD c undef = .pointer (some a)) (ha' : tmps.getD c' undef = .pointer (some a'))
    (hv : (loadVar T a).run P w = .ok v w) (hv' : (loadVar T' a').run P w = .ok v' w) : (results fn tmps).run P w = .ok (.tuple #[v, v']) w := by
  rw [Array.getD_eq_getD_getElem?] at ha ha'
  simp [results, h, ha, ha', asAddr, hv, hv']
theorem load1L {w : World} (b : Nat) (v : Value) (h : w.cell? ⟨b, 0, none⟩ = some v) : (loadVar 32 ⟨b, 0, none⟩).run Tryz.prog w = .ok v w := by
  unfold loadVar
  go_simp
theorem load1I {w : World} (b : Nat) (v : Value) (h : w.cell? ⟨b, 0, none⟩ = some v) : (loadVar 3 ⟨b, 0, none⟩).run Tryz.prog w = .ok v w := by
  unfold loadVar
  go_simp
/-- What Recover holds between two records. -/
def RecI (n : Nat) (W0 : World) (pre : List (List UInt8 × Nat)) (W : World) : Prop :=
  (∃ v, Boxed W n 32 v ∧ W.ownsRow W0.heap.size 9 1 v pre.length (strsV (pre.map Prod.fst)) ∧ True) ∧ Boxed W (n + 1) 3 (.int .i64 (endE pre : Int)) ∧ Below n W0 W ∧ pre.length ≤ 50
theorem RecI_own (n : Nat) (W0 : World) (B : Nat) (h0 : n ≤ W0.heap.size) (hB : n ≤ B) : OwnFrom B (RecI n W0) :=
  OwnFrom.and (Own.from (holdsRow_own W0.heap.size n 32 9 1 (fun pre : List (List UInt8 × Nat) => pre.length) (fun pre => strsV (pre.map Prod.fst)) (fun _ _ => True)) _) (OwnFrom.and (Own.from (boxed_own _ _ _) _) (OwnFrom.and (ownFrom_below h0 hB) (ownFrom_pure _ _)))
set_option maxRecDepth 100000 in
set_option maxHeartbeats 4000000 in
theorem Recover_any (a : Option Addr) (c m : Nat) (L : List UInt8) (w : World) (en : L.length = m) (hm : m ≤ 9000) (hc : m ≤ c) (hs : SrcAt w a (zDB L)) (hv : Vars w) :
    Calls Tryz.prog 67 #[.slice a m c] w fun e w' => (∃ a' c', e = .returned (.tuple #[.slice a' (readL 50 L 0).length c', .int .i64 (zIe (readL 50 L 0) : Int)]) ∧ OwnL 9 1 w.heap.size w' a' c' (readL 50 L 0).length (strsV (readL 50 L 0))) ∧ Below w.heap.size w w' := by
  obtain ⟨i0, hi, hz0, hz1, hz2⟩ := info_parts zOI
  obtain ⟨R, hR⟩ : ∃ R, readL 50 L 0 = R := ⟨_, rfl⟩
  rw [hR]
  replace hR : Hid (readL 50 L 0 = R) := Lib.hid hR
  have h8 := hv.lt
  have rm : ∀ W, Calls Tryz.prog 123 #[.slice a m c] W _ := fun W => records_mk a m c W
  have hab : 0 < m → ∀ p, a = some p → p.block < w.heap.size := fun h p e => by
    obtain ⟨b, off, e2, lb⟩ := src_addr hs (by omega)
    rw [e2] at e; cases e; exact lb
  refine (callsIn_wide (n := 5)).1 ?_
  refine callsIn_of_wp_marks Tryz.func67 rfl trivial ?_ rfl
  simp only [Tryz.ntmps67, List.size_toArray, List.length_cons, List.length_nil, Nat.reduceAdd, Nat.reduceSub, Array.replicate_succ, Array.replicate_zero, List.push_toArray, List.append_toArray, List.nil_append, List.cons_append]
  gi_wp2
  refine wpIn_wide.2 (wp_scope_straight ((wpIn_wide (n := 5)).1 ?_))
  refine wpIn_seq_k fun K hK => ?_
  refine wpIn_label (hK _ _ ?_)
  gi_wp2_with (refine ⟨trivial, ?_⟩; gi_at_call 123; refine (callsIn_wide.2 (rm _)).mono ?_; rintro e w' ⟨rfl, rfl⟩)
  obtain ⟨W0, hW0⟩ : ∃ z : World, z = ((w.alloc (.cells #[.slice none 0 0] 32)).alloc (.cells #[.int .i64 0] 3)).alloc (.cells #[.slice a m c] 128) := ⟨_, rfl⟩
  have z0 : W0.heap.size = w.heap.size + 3 := by rw [hW0]; simp
  have b0 : Below w.heap.size w W0 := by rw [hW0]; exact (((Below.refl _ _).alloc (Nat.le_refl _) _).alloc (by simp) _).alloc (by simp; omega) _
  have bL : Boxed W0 w.heap.size 32 (.slice none 0 0) := by rw [hW0]; exact ((Boxed.new w 32 _).alloc _).alloc _
  have bN : Boxed W0 (w.heap.size + 1) 3 (.int .i64 0) := by
    rw [hW0]
    have := (Boxed.new (w.alloc (.cells #[.slice none 0 0] 32)) 3 (.int .i64 0)).alloc (.cells #[.slice a m c] 128)
    rwa [World.size_alloc] at this
  have bX : W0.cell? ⟨w.heap.size + 1 + 1, 0, none⟩ = some (.slice a m c) := by
    rw [hW0]
    have := (Boxed.new ((w.alloc (.cells #[.slice none 0 0] 32)).alloc (.cells #[.int .i64 0] 3)) 128 (.slice a m c)).cell
    rwa [World.size_alloc, World.size_alloc] at this
  rw [← hW0]
  clear hW0
  refine wpIn_rangeFunc_ownG rfl (by omega) (gf := 178) (lb := #[.pointer (some ⟨w.heap.size + 1 + 1, 0, none⟩)]) rfl trivial (enters_of Tryz.func178 (by kernel_rfl) rfl)
    (records_stops 4 (by omega) W0.heap.size (w.heap.size + 1 + 1) m a c [w.heap.size, w.heap.size + 1] L W0 en hm hc bX (zAO hs b0) (by omega) (by simp; omega) (fun h p e => by have := hab h p e; exact ⟨by omega, by simp; omega⟩) (hv.below b0)) KY.trans (fun W l o o' hl h ho _ => KY.putObj W l o o' (by omega) h ho) (Below.refl _ _) (fun _ => rfl)
    (RecI w.heap.size W0) (fun cc pre W => cc = .exit 0 ∧ ∃ q x, pre = q ++ [x] ∧ q.length = 50 ∧ RecI w.heap.size W0 q W)
    (RecI_own _ _ _ (by omega) (by omega)) (fun cc s A B row hs' hg hr => by obtain ⟨h1, q, x, h2, h3, h4⟩ := hs'; exact ⟨h1, q, x, h2, h3, RecI_own _ _ _ (by omega) (by omega) q A B row h4 hg hr⟩)
    ⟨⟨_, bL, World.ownsRow_nil _ _ _ _, trivial⟩, bN, Below.refl _ _, by simp⟩
    (fun x => { tmps := #[.slice a m c, undef, .pointer (some ⟨w.heap.size, 0, none⟩), .pointer (some ⟨w.heap.size + 1, 0, none⟩), .string ⟨x.1.toArray⟩, .int .i64 (x.2 : Int), .slice a m c, .func (.func 178) #[] #[.pointer (some ⟨w.heap.size + 1 + 1, 0, none⟩)], .string ⟨x.1.toArray⟩, .int .i64 (x.2 : Int), undef, undef, undef, undef, undef, undef, undef, undef, undef, undef], defers := [] }) ?assign ?body ?done ?stop
  case assign =>
    intro l x W K hK
    unfold encE
    gi_wp2
    exact hK
  case body =>
    rintro l pre x W ⟨⟨v, hvb, hrow, _⟩, hnb, hB, h50⟩ hlt
    have hcv := hvb.cell
    have lV := hvb.lt
    obtain ⟨ao, co, rfl⟩ := Cps.zLu hrow
    have hcv := hvb.cell
    have hW : W0.heap.size ≤ W.heap.size := hB.size
    by_cases h5 : pre.length = 50
    · have h5I : (pre.length : Int) = 50 := by omega
      gi_wp2
      exact ⟨(KeepsOthers.refl W).from _, rfl, pre, x, rfl, h5, ⟨_, hvb, hrow, trivial⟩, hnb, hB, h50⟩
    · have h5I : ¬ (pre.length : Int) = 50 := by omega
      have hlb : ∀ j, (Value.slice ao pre.length co).ownBlock = some j → W0.heap.size ≤ j := fun j ej => by
        rcases hrow.2 with ⟨h1, _⟩ | ⟨g, cap, cur, h1, hb, _, _⟩
        · rw [h1] at ej; simp [Value.ownBlock] at ej
        · rw [h1] at ej
          obtain rfl : g = j := by simpa [Value.ownBlock] using ej
          exact hb
      gi_wp2_with (gi_at_builtin; refine wpListIn_append_own _ rfl _ _ 32 rfl W0.heap.size 9 i0 (.string ⟨#[]⟩) 1 16 Tryz.underlying32 hi hz0 hz1 hz2 rfl (by decide) _ _ _ rfl (hrow.alloc _) ⟨W.heap.size, 0, none⟩ 1 1 [.string ⟨x.1.toArray⟩] rfl rfl (cell_one_new _ _ _) (by simp [Value.oneCell']) (by unfold maxLen; omega) (by omega) (by simp; omega) ?_; intro v' w2 hown' hgrow _; obtain ⟨g', cap', rfl⟩ := ownsRow_succ hown'; have hv1 := (hvb.alloc _).kept hgrow (hvb.not_row (by decide) hrow); have hN1 := (hnb.alloc _).kept hgrow (hnb.not_row (by decide) hrow); have hN2 := hN1.other (B' := w.heap.size) (by omega) (.slice (some ⟨g', 0, none⟩) (pre.length + 1) cap'); have hc1 := hv1.cell; have hf1 := hv1.frozen; have hc2 := hN2.cell; have hf2 := hN2.frozen)
      have hgrow' : (W.alloc (.cells #[.string ⟨x.1.toArray⟩] 9)).grownBy w2 (Value.slice ao pre.length co).ownBlock := hgrow
      have hv2 := hv1.set (.slice (some ⟨g', 0, none⟩) (pre.length + 1) cap')
      have hr2 := hown'.kept (grownBy_setCell' w2 w.heap.size (.slice (some ⟨g', 0, none⟩) (pre.length + 1) cap')) (.inr (hv1.not_row (by decide) hown').symm)
      have hr3 := hr2.kept (grownBy_setCell' _ (w.heap.size + 1) (.int .i64 (x.2 : Int))) (.inr (hN2.not_row (by decide) hr2).symm)
      have hv3 := hv2.other (B' := w.heap.size + 1) (by omega) (.int .i64 (x.2 : Int))
      have hN3 := hN2.set (.int .i64 (x.2 : Int))
      have kA : KeepsOthers W w2 := (KeepsOthers.alloc W _).trans (KeepsOthers.of_grownBy hgrow' fun j o ej hj => by
        rcases (hrow.alloc (.cells #[.string ⟨x.1.toArray⟩] 9)).2 with ⟨h1, _⟩ | ⟨g, cap, cur, h1, _, hgb, _⟩
        · rw [h1] at ej; simp [Value.ownBlock] at ej
        · rw [h1] at ej
          obtain rfl : g = j := by simpa [Value.ownBlock] using ej
          rw [hgb] at hj; cases hj; rfl)
      have bA : Below W0.heap.size W w2 := ((Below.refl _ W).alloc hW _).grown hgrow' (by simp; omega) hlb
      exact ⟨(kA.trans ((KeepsOthers.setCell _ _ _).trans (KeepsOthers.setCell _ _ _))).from _, (KY.below' (by omega) bA).trans ((KY.setCell w2 w.heap.size 0 _ (by simp) (by omega)).trans (KY.setCell _ (w.heap.size + 1) 0 _ (by simp) (by omega))),
        ⟨_, hv3, by simpa [strsV] using hr3, trivial⟩, by rw [endE_snoc]; exact hN3, hB.trans (((bA.mono (show w.heap.size ≤ W0.heap.size by omega)).setCell (p := ⟨w.heap.size, 0, none⟩) (Nat.le_refl _) _).setCell (p := ⟨w.heap.size + 1, 0, none⟩) (by simp) _), by simp; omega⟩
  case done =>
    rintro D q W hD hys ⟨⟨v, hvb, hrow, _⟩, hnb, hB, h50⟩ hK
    have hq : q.map Prod.fst = R := by
      have h1 := recs_map L (m + 50) 0 0
      rw [List.drop_zero, ← hys] at h1
      rw [← hR.out, ← read_take 50 (m + 50) L 0 (by omega), ← h1, List.take_of_length_le (by rw [List.length_map]; exact h50)]
    have he : endE q = zIe R := by rw [← hq]; exact recs_end0 (b := L) (k := m + 50) (r := []) (by rw [hys, List.append_nil])
    replace he := Lib.hid he
    clear hys
    obtain ⟨ao, co, rfl⟩ := Cps.zLu hrow
    have hcv := hvb.cell
    have hcn := hnb.cell
    have lv := hvb.lt
    have ln := hnb.lt
    gi_wp2
    have lf := hvb.frozen
    have nf := hnb.frozen
    have bl9 := hvb.set (.slice ao q.length co)
    have bn9 := hnb.other (B' := w.heap.size) (by omega) (.slice ao q.length co)
    have hr9 := hrow.kept (grownBy_setCell' W w.heap.size (.slice ao q.length co)) (.inr (hvb.not_row (by decide) hrow).symm)
    have bl10 := bl9.other (B' := w.heap.size + 1) (by omega) (.int .i64 (endE q : Int))
    have bn10 := bn9.set (.int .i64 (endE q : Int))
    have hr10 := hr9.kept (grownBy_setCell' _ (w.heap.size + 1) (.int .i64 (endE q : Int))) (.inr (bn9.not_row (by decide) hr9).symm)
    have c9 := bn9.cell
    have f9 := bn9.frozen
    have hD' : D < W.heap.size := (Array.getElem?_eq_some_iff.1 hK).1
    gi_region
    gi_wp2
    have hK10 : ((W.setCell ⟨w.heap.size, 0, none⟩ (.slice ao q.length co)).setCell ⟨w.heap.size + 1, 0, none⟩ (.int .i64 (endE q : Int))).drew.heap[D]? = some (.deferred (some [])) := by
      show ((W.setCell ⟨w.heap.size, 0, none⟩ (.slice ao q.length co)).setCell ⟨w.heap.size + 1, 0, none⟩ (.int .i64 (endE q : Int))).heap[D]? = _
      rw [Below.heap_setCell _ _ _ _ (show D ≠ w.heap.size + 1 by omega), Below.heap_setCell _ _ _ _ (show D ≠ w.heap.size by omega)]; exact hK
    have t10 : Below w.heap.size w ((W.setCell ⟨w.heap.size, 0, none⟩ (.slice ao q.length co)).setCell ⟨w.heap.size + 1, 0, none⟩ (.int .i64 (endE q : Int))).drew :=
      (((b0.trans hB).setCell (p := ⟨w.heap.size, 0, none⟩) (Nat.le_refl _) _).setCell (p := ⟨w.heap.size + 1, 0, none⟩) (by simp) _).drew
    obtain ⟨W10, hX⟩ : ∃ z : World, z = ((W.setCell ⟨w.heap.size, 0, none⟩ (.slice ao q.length co)).setCell ⟨w.heap.size + 1, 0, none⟩ (.int .i64 (endE q : Int))).drew := ⟨_, rfl⟩
    replace bl10 : Boxed W10 w.heap.size 32 (.slice ao q.length co) := by rw [hX]; exact bl10
    replace bn10 : Boxed W10 (w.heap.size + 1) 3 (.int .i64 (endE q : Int)) := by rw [hX]; exact bn10
    replace hr10 : W10.ownsRow W0.heap.size 9 1 (.slice ao q.length co) q.length (strsV (q.map Prod.fst)) := by rw [hX]; exact hr10
    rw [← hX] at hK10 t10 ⊢
    clear hX
    refine ⟨by simp, .inl ⟨_, _, rfl, run_takeDeferred hK10, ?_⟩⟩
    have g1 := grownBy_putObj' W10 D (.deferred none)
    have y1 := (bl10.kept g1 (fun e => by cases e; omega)).cell
    have y2 := (bn10.kept g1 (fun e => by have := Option.some.inj e; omega)).cell
    exact ⟨_, results_cells2 rfl rfl rfl (load1L _ _ y1) (load1I _ _ y2), ⟨ao, co, by rw [← hq, List.length_map, hq, ← he.out], by
      have := ownsRow_putObj hr10 (.deferred none) hK10 rfl
      rw [hq] at this
      have e3 : q.length = R.length := by rw [← hq, List.length_map]
      rw [e3] at this
      exact OwnL.base_le (show OwnL _ _ _ _ _ _ _ _ from this) (by omega)⟩, t10.trans (belowK_b (w := w) (Nat.le_refl _) W10 D _ _ (by omega) hK10 rfl rfl)⟩
  case stop =>
    rintro D cc pre W hD hSp ⟨rfl, q, x, rfl, h50, ⟨v, hvb, hrow, _⟩, hnb, hB, _⟩ hK
    obtain ⟨r, hr⟩ := hSp
    have hq : q.map Prod.fst = R := by
      have h1 := recs_map L (m + 50) 0 0
      rw [List.drop_zero, ← hr] at h1
      rw [← hR.out, ← read_take 50 (m + 50) L 0 (by omega), ← h1, List.append_assoc, List.map_append, List.take_left' (by rw [List.length_map]; exact h50)]
    have he : endE q = zIe R := by rw [← hq]; exact recs_end0 (b := L) (k := m + 50) (r := [x] ++ r) (by rw [← hr, List.append_assoc])
    replace he := Lib.hid he
    replace h50 := Lib.hid h50
    clear hr
    obtain ⟨ao, co, rfl⟩ := Cps.zLu hrow
    have hcv := hvb.cell
    have hcn := hnb.cell
    have lv := hvb.lt
    have ln := hnb.lt
    gi_wp2
    have lf := hvb.frozen
    have nf := hnb.frozen
    have bl9 := hvb.set (.slice ao q.length co)
    have bn9 := hnb.other (B' := w.heap.size) (by omega) (.slice ao q.length co)
    have hr9 := hrow.kept (grownBy_setCell' W w.heap.size (.slice ao q.length co)) (.inr (hvb.not_row (by decide) hrow).symm)
    have bl10 := bl9.other (B' := w.heap.size + 1) (by omega) (.int .i64 (endE q : Int))
    have bn10 := bn9.set (.int .i64 (endE q : Int))
    have hr10 := hr9.kept (grownBy_setCell' _ (w.heap.size + 1) (.int .i64 (endE q : Int))) (.inr (bn9.not_row (by decide) hr9).symm)
    have c9 := bn9.cell
    have f9 := bn9.frozen
    have hD' : D < W.heap.size := (Array.getElem?_eq_some_iff.1 hK).1
    gi_region
    gi_wp2
    have hK10 : ((W.setCell ⟨w.heap.size, 0, none⟩ (.slice ao q.length co)).setCell ⟨w.heap.size + 1, 0, none⟩ (.int .i64 (endE q : Int))).drew.heap[D]? = some (.deferred (some [])) := by
      show ((W.setCell ⟨w.heap.size, 0, none⟩ (.slice ao q.length co)).setCell ⟨w.heap.size + 1, 0, none⟩ (.int .i64 (endE q : Int))).heap[D]? = _
      rw [Below.heap_setCell _ _ _ _ (show D ≠ w.heap.size + 1 by omega), Below.heap_setCell _ _ _ _ (show D ≠ w.heap.size by omega)]; exact hK
    have t10 : Below w.heap.size w ((W.setCell ⟨w.heap.size, 0, none⟩ (.slice ao q.length co)).setCell ⟨w.heap.size + 1, 0, none⟩ (.int .i64 (endE q : Int))).drew :=
      (((b0.trans hB).setCell (p := ⟨w.heap.size, 0, none⟩) (Nat.le_refl _) _).setCell (p := ⟨w.heap.size + 1, 0, none⟩) (by simp) _).drew
    obtain ⟨W10, hX⟩ : ∃ z : World, z = ((W.setCell ⟨w.heap.size, 0, none⟩ (.slice ao q.length co)).setCell ⟨w.heap.size + 1, 0, none⟩ (.int .i64 (endE q : Int))).drew := ⟨_, rfl⟩
    replace bl10 : Boxed W10 w.heap.size 32 (.slice ao q.length co) := by rw [hX]; exact bl10
    replace bn10 : Boxed W10 (w.heap.size + 1) 3 (.int .i64 (endE q : Int)) := by rw [hX]; exact bn10
    replace hr10 : W10.ownsRow W0.heap.size 9 1 (.slice ao q.length co) q.length (strsV (q.map Prod.fst)) := by rw [hX]; exact hr10
    rw [← hX] at hK10 t10 ⊢
    clear hX
    refine ⟨by simp, .inl ⟨_, _, rfl, run_takeDeferred hK10, ?_⟩⟩
    have g1 := grownBy_putObj' W10 D (.deferred none)
    have y1 := (bl10.kept g1 (fun e => by cases e; omega)).cell
    have y2 := (bn10.kept g1 (fun e => by have := Option.some.inj e; omega)).cell
    exact ⟨_, results_cells2 rfl rfl rfl (load1L _ _ y1) (load1I _ _ y2), ⟨ao, co, by rw [← hq, List.length_map, hq, ← he.out], by
      have := ownsRow_putObj hr10 (.deferred none) hK10 rfl
      rw [hq] at this
      have e3 : q.length = R.length := by rw [← hq, List.length_map]
      rw [e3] at this
      exact OwnL.base_le (show OwnL _ _ _ _ _ _ _ _ from this) (by omega)⟩, t10.trans (belowK_b (w := w) (Nat.le_refl _) W10 D _ _ (by omega) hK10 rfl rfl)⟩
end Go.Proofs.YticjeianiahppaaGreatDoor
