/- pay: the law's conversions -/
import Derived.Test.YtaphfibfjepceaaBh
namespace Go.Proofs.Ytaphfibfjepceaa
set_option linter.unusedVariables false
set_option linter.unusedSimpArgs false
set_option linter.unnecessarySimpa false
open Go.RowKit Go.Flow Go.Shelf
theorem OwnL.store {E : TypeId} {size base : Nat} {w : World} {a : Option Addr} {c n : Nat} {xs : List Value} (h : OwnL E size base w a c n xs) {p : Addr} (hp : p.block < base) (u : Value) : OwnL E size base (w.setCell p u) a c n xs := by
  rcases h.form with ⟨rfl, rfl, rfl, rfl⟩ | ⟨g, rfl, hg, _⟩
  · exact OwnL.nil _ _ _ _
  · exact own_other h (by omega) u

section
variable (st rate keeps : Int) (ds : List Dis) (ad : Option Addr) (cd : Nat) (w : World) (hd : DisAt w ad ds) (sm : AccSmall ⟨st, rate, keeps, ds⟩)
include hd sm
end

/-- The cells of a list of dispatches, each with a row of its own. -/
def DLs (w : World) (B : Nat) (vs : List Value) (ds : List Dis) : Prop :=
  vs.length = ds.length * 4 ∧ ∀ k (h : k < ds.length), ∃ al c, vs[k * 4]? = some (.int .i64 ds[k].payer) ∧ vs[k * 4 + 1]? = some (.int .i64 ds[k].lo) ∧ vs[k * 4 + 2]? = some (.int .i64 ds[k].hi) ∧ vs[k * 4 + 3]? = some (.slice al ds[k].passed.length c) ∧ OwnL 3 1 B w al c ds[k].passed.length (ds[k].passed.map (Value.int .i64))
theorem DLs.nil (w : World) (B : Nat) : DLs w B [] [] := ⟨rfl, fun k h => by simp at h⟩
theorem DLs.below {w w' : World} {B : Nat} {vs : List Value} {ds : List Dis} (h : DLs w B vs ds) (hb : Below w.heap.size w w') : DLs w' B vs ds := ⟨h.1, fun k hk =>
  let ⟨al, c, h1, h2, h3, h4, h5⟩ := h.2 k hk
  ⟨al, c, h1, h2, h3, h4, h5.kept hb⟩⟩
theorem DLs.store {w : World} {B : Nat} {vs : List Value} {ds : List Dis} (h : DLs w B vs ds) {p : Addr} (hp : p.block < B) (u : Value) : DLs (w.setCell p u) B vs ds := ⟨h.1, fun k hk =>
  let ⟨al, c, h1, h2, h3, h4, h5⟩ := h.2 k hk
  ⟨al, c, h1, h2, h3, h4, h5.store hp u⟩⟩
theorem DLs.grown {w w' : World} {B : Nat} {vs : List Value} {ds : List Dis} (h : DLs w B vs ds) {E : TypeId} (hE : (3 : TypeId) ≠ E) {size base : Nat} {a : Option Addr} {c n : Nat} {xs : List Value} (h' : OwnL E size base w a c n xs) (hg : w.grownBy w' (Value.slice a n c).ownBlock) : DLs w' B vs ds := ⟨h.1, fun k hk =>
  let ⟨al, c, h1, h2, h3, h4, h5⟩ := h.2 k hk
  ⟨al, c, h1, h2, h3, h4, h5.grown hg (OwnL.apart hE h5 h')⟩⟩
theorem DLs.snoc {w : World} {B : Nat} {vs : List Value} {ds : List Dis} (h : DLs w B vs ds) {al : Option Addr} {c : Nat} (d : Dis) (hx : OwnL 3 1 B w al c d.passed.length (d.passed.map (Value.int .i64))) : DLs w B (vs ++ [.int .i64 d.payer, .int .i64 d.lo, .int .i64 d.hi, .slice al d.passed.length c]) (ds ++ [d]) := by
  refine ⟨by simp [h.1]; omega, fun k hk => ?_⟩
  by_cases e : k < ds.length
  · obtain ⟨al', c', h1, h2, h3, h4, h5⟩ := h.2 k e
    have hl := h.1
    refine ⟨al', c', ?_, ?_, ?_, ?_, ?_⟩
    all_goals (try rw [List.getElem?_append_left (by omega)])
    all_goals (rw [List.getElem_append_left e]; assumption)
  · obtain rfl : k = ds.length := by simp at hk; omega
    have hl := h.1
    refine ⟨al, c, ?_, ?_, ?_, ?_, by simpa using hx⟩
    · rw [List.getElem?_append_right (by omega), hl]; simp
    · rw [List.getElem?_append_right (by omega), hl, show ds.length * 4 + 1 - ds.length * 4 = 1 by omega]; simp
    · rw [List.getElem?_append_right (by omega), hl, show ds.length * 4 + 2 - ds.length * 4 = 2 by omega]; simp
    · rw [List.getElem?_append_right (by omega), hl, show ds.length * 4 + 3 - ds.length * 4 = 3 by omega]; simp
theorem own_pass {w : World} {B : Nat} {al : Option Addr} {c : Nat} {l : List Int} (h : OwnL 3 1 B w al c l.length (l.map (Value.int .i64))) : PassAt w al c l := ⟨h.ints.1, h.fits.1, fun e => by subst e; exact h.isnil.2⟩
theorem DLs.dis {w : World} {B : Nat} {vs : List Value} {ds : List Dis} (h : DLs w B vs ds) {T : TypeId} {base : Nat} {a : Option Addr} {c n : Nat} (ho : OwnL T 4 base w a c n vs) : DisAt w a ds := fun k hk => by
  obtain ⟨al, c', h1, h2, h3, h4, h5⟩ := h.2 k hk
  rcases ho.form with ⟨_, _, _, rfl⟩ | ⟨g, rfl, _, hlt, _, _, _, hc⟩
  · simp at h1
  · exact ⟨g, 0, al, c', rfl, hlt, by rw [Nat.zero_add]; exact hc _ _ h1, by rw [Nat.zero_add]; exact hc _ _ h2, by rw [Nat.zero_add]; exact hc _ _ h3, by rw [Nat.zero_add]; exact hc _ _ h4, own_pass h5⟩
theorem info_disp : (Try.prog.info? 67).map (fun i => (i.zero, i.size, i.bytes)) = some (some (.agg #[.int .i64 0, .int .i64 0, .int .i64 0, .slice none 0 0]), 4, 48) := by kernel_rfl
theorem elDisp : Elem Try.prog 53 67 (.agg #[.int .i64 0, .int .i64 0, .int .i64 0, .slice none 0 0]) 4 48 := ⟨Try.underlying53, info_parts info_disp, rfl, by decide⟩
theorem load_acc {w : World} {b : Nat} {v0 v1 v2 v3 : Value} (h : Cells w b #[v0, v1, v2, v3] 55) :
    (loadVar 55 ⟨b, 0, none⟩).run Try.prog w = .ok (.agg #[v0, v1, v2, v3]) w := by
  have hi := Try.isAgg55
  have hs := Try.sizeOf55
  have k0 := h.cell 0
  have k1 := h.cell 1
  have k2 := h.cell 2
  have k3 := h.cell 3
  simp at k0 k1 k2 k3
  unfold loadVar
  go_simp
/-- A dispatch with a row of its own, as a value. -/
def DisV (B : Nat) (p lo hi : Int) (l : List Int) (v : Value) (w : World) : Prop := ∃ a c, v = .agg #[.int .i64 p, .int .i64 lo, .int .i64 hi, .slice a l.length c] ∧ OwnL 3 1 B w a c l.length (l.map (Value.int .i64))
theorem DisV.kept {B : Nat} {p lo hi : Int} {l : List Int} {v : Value} {w w' : World} (h : DisV B p lo hi l v w) (hb : Below w.heap.size w w') : DisV B p lo hi l v w' := let ⟨a, c, h1, h2⟩ := h; ⟨a, c, h1, h2.kept hb⟩
def DisLV (B : Nat) (p lo hi : Int) (l : List Int) (v : Value) (w : World) : Prop := ∃ g a c, v = .slice (some ⟨g, 0, none⟩) 1 1 ∧ B ≤ g ∧ Cells w g #[.int .i64 p, .int .i64 lo, .int .i64 hi, .slice a l.length c] 67 ∧ OwnL 3 1 B w a c l.length (l.map (Value.int .i64))
theorem DisLV.kept {B : Nat} {p lo hi : Int} {l : List Int} {v : Value} {w w' : World} (h : DisLV B p lo hi l v w) (hb : Below w.heap.size w w') : DisLV B p lo hi l v w' := let ⟨g, a, c, h1, h2, h3, h4⟩ := h; ⟨g, a, c, h1, h2, h3.below hb, h4.kept hb⟩
section
variable (st rate keeps : Int) (ds : List Dis) (ad : Option Addr) (cd : Nat) (w : World) (hd : DisAt w ad ds) (sm : AccSmall ⟨st, rate, keeps, ds⟩)
include hd sm
set_option maxRecDepth 100000 in
set_option maxHeartbeats 4000000 in
theorem account_any : Calls Try.prog 16 #[.agg #[.int .i64 st, .int .i64 rate, .int .i64 keeps, .slice ad ds.length cd]] w fun e w' => (∃ a c, e = .returned (.agg #[.int .i64 st, .int .i64 rate, .int .i64 keeps, .slice a ds.length c]) ∧ DisAt w' a ds) ∧ Below w.heap.size w w' := by
  have l0 : ds.length ≤ 1000 := sm.d
  have lp : ∀ d ∈ ds, d.passed.length ≤ 1000 := sm.p
  obtain ⟨W0, hW0⟩ : ∃ z : World, z = ((w.alloc (.cells #[.int .i64 st, .int .i64 rate, .int .i64 keeps, .slice ad ds.length cd] 29)).alloc (.cells #[.int .i64 0, .int .i64 0, .int .i64 0, .slice none 0 0] 55)).alloc (.cells #[.int .i64 st, .int .i64 rate, .int .i64 keeps, .slice none 0 0] 55) := ⟨_, rfl⟩
  have b0 : Below w.heap.size w W0 := by rw [hW0]; (repeat (first | exact Below.refl _ _ | refine Below.alloc ?_ (by first | omega | (simp; done) | (simp; omega)) _ | refine Below.drew ?_ | refine Below.setCell ?_ (by first | omega | (simp; done) | (simp; omega)) _ | refine Below.trans ?_ (Below.mono (by assumption) (by first | omega | (simp; done) | (simp; omega)))))
  have hz0 : W0.heap.size = w.heap.size + 1 + 1 + 1 := by rw [hW0]; simp
  have CA : Cells W0 w.heap.size #[.int .i64 st, .int .i64 rate, .int .i64 keeps, .slice ad ds.length cd] 29 := by rw [hW0]; exact ((Cells.new _ _ _).alloc _).alloc _
  have CR : Cells W0 (w.heap.size + 1) #[.int .i64 0, .int .i64 0, .int .i64 0, .slice none 0 0] 55 := by rw [hW0]; exact (Cells.new' _ _ _ _ (by simp)).alloc _
  have CX : Cells W0 (w.heap.size + 1 + 1) #[.int .i64 st, .int .i64 rate, .int .i64 keeps, .slice none 0 0] 55 := by rw [hW0]; exact Cells.new' _ _ _ _ (by simp)
  clear sm
  obtain ⟨B, hB⟩ : ∃ B, w.heap.size + 1 + 1 + 1 = B := ⟨_, rfl⟩
  rw [hB] at hz0
  go_enter Try.func16, Try.ntmps16
  go_wp2
  rw [← hW0]
  clear hW0
  go_loopw [4, 5] (fun i _ X => ∃ (k : Nat) (a' : Option Addr) (c' : Nat) (vs : List Value), k ≤ ds.length ∧ i = .int .i64 k ∧ Cells X (w.heap.size + 1 + 1) #[.int .i64 st, .int .i64 rate, .int .i64 keeps, .slice a' k c'] 55 ∧ OwnL 67 4 B X a' c' k vs ∧ DLs X B vs (ds.take k) ∧ Below (w.heap.size + 1 + 1) W0 X) (fun i _ _ => ds.length - (intOf i).toNat)
  case atStart => exact ⟨0, none, 0, [], Nat.zero_le _, rfl, CX, OwnL.nil _ _ _ _, DLs.nil _ _, Below.refl _ _⟩
  case round =>
    obtain ⟨k, a', c', vs, hk, rfl, hcx, own, hdl, hb⟩ := hrel
    rename World => X
    have bX : Below w.heap.size w X := b0.trans (hb.mono (by omega))
    have hzX : B ≤ X.heap.size := by have := hb.size; omega
    have CA2 : Cells X w.heap.size #[.int .i64 st, .int .i64 rate, .int .i64 keeps, .slice ad ds.length cd] 29 := (hb.block w.heap.size (by omega)).trans CA
    have q3 := CA2.cell 3
    have lq := CA2.lt
    simp at q3
    by_cases hlt : k < ds.length
    · have hkI : (k : Int) < (ds.length : Int) := by omega
      obtain ⟨bd, od, al, cl, rfl, hbd, d0, d1, d2, d3, hPa⟩ := (hd.below bX) k hlt
      have hpl := lp _ (List.getElem_mem hlt)
      have htk : ds.take (k + 1) = ds.take k ++ [ds[k]] := List.take_succ_eq_append_getElem hlt
      obtain ⟨d, hde⟩ : ∃ d, ds[k] = d := ⟨_, rfl⟩
      rw [hde] at d0 d1 d2 d3 hPa hpl htk
      have Htk := Lib.hid htk
      clear htk hde
      obtain ⟨py, lo, hi2, l⟩ := d
      dsimp only at d0 d1 d2 d3 hPa hpl
      have C5 := Cells.new X #[.int .i64 py, .int .i64 lo, .int .i64 hi2, .slice al l.length cl] 48
      obtain ⟨X1, hX1⟩ : ∃ z : World, z = X.alloc (.cells #[.int .i64 py, .int .i64 lo, .int .i64 hi2, .slice al l.length cl] 48) := ⟨_, rfl⟩
      have bX1 : Below X.heap.size X X1 := by rw [hX1]; exact (Below.refl _ _).alloc (Nat.le_refl _) _
      rw [← hX1] at C5
      go_wp2
      rw [← hX1]
      clear hX1 d0 d1 d2 d3 q3 lq
      have y0 := C5.cell 0
      have y1 := C5.cell 1
      have y2 := C5.cell 2
      have y3 := C5.cell 3
      have yl := C5.lt
      simp at y0 y1 y2 y3
      have hcx1 := hcx.below bX1
      have own1 := own.kept bX1
      have hdl1 := hdl.below bX1
      have x3 := hcx1.cell 3
      have xl := hcx1.lt
      simp at x3
      have hP1 := hPa.at_.below bX1
      have hnil := hPa.nil
      have hzX1 : B ≤ X1.heap.size := Nat.le_trans hzX bX1.size
      clear hcx own hdl hPa
      (refine wp_region_seq 16 [] [16, 17, 18] 44 [true, true, true, true, true, true, true, true, true, true, true, true, true, false, false, false] [OwnV 3 1 B l.length (l.map (Value.int .i64)), DisV B py lo hi2 l, DisLV B py lo hi2 l] (by kernel_rfl) (by kernel_rfl) rfl (mono_cons (fun v w w' h hb => h.kept hb) (mono_cons (fun v w w' h hb => h.kept hb) (mono_cons (fun v w w' h hb => h.kept hb) mono_nil))) ?_; simp only [pickOps, List.filterMap_cons, List.filterMap_nil, List.getElem?_toArray, List.getElem?_cons_succ, List.getElem?_cons_zero]; (repeat (refine wpFl_step _ rfl (fun w => (by go_simp; rfl)) ?_)); refine wpFl_nil ?_; simp only [maskOps, dummy, Act.put, List.setIfInBounds_toArray, List.set_cons_zero, List.set_cons_succ, List.take_succ_cons, List.take_zero, List.drop_succ_cons, List.drop_zero]; (repeat (refine wpQB_step (fun K hK => ?_); go_simp; first | (refine hK _ ?_; clear hK K) | (apply Exists.intro; refine ⟨fun ex => ?_, hK _ ?_⟩; (fail); clear hK K))); refine wpQB_nil ?_; simp only [relObl2, under, relEnd, and_true, List.nil_append, List.cons_append])
      refine ⟨⟨fun e => ?_, fun e v1 h1 => ?_, fun e v1 _ v2 h2 => ?_⟩, fun e => ?_⟩
      · go_simp
        refine (list_any al l cl e.to (hP1.below e.below) (by omega) hnil).mono ?_
        rintro r w' ⟨a1, c1, rfl, o1, hb⟩
        exact ⟨hb, a1, c1, rfl, o1.base_le (by have := e.size; omega)⟩
      · obtain ⟨a1, c1, rfl, o1⟩ := h1 (by kernel_rfl)
        go_simp
        exact ⟨Below.refl _ _, a1, c1, rfl, o1⟩
      · obtain ⟨a1, c1, rfl, o1⟩ := h2 (by kernel_rfl)
        go_simp
        exact ⟨(Below.refl _ _).alloc (Nat.le_refl _) _, e.to.heap.size, a1, c1, rfl, by have := e.size; omega, Cells.new _ _ _, o1.alloc _⟩
      rintro v1 _ v2 _ v3 ⟨gg, a1, c1, rfl, hg1, hgg, o1⟩
      simp only [Act.put, List.setIfInBounds_toArray, List.set_cons_zero, List.set_cons_succ]
      have heb := e.below
      have hez := e.size
      have hcs3 := hcx1.below heb
      have hown4 := own1.kept heb
      have hdl4 := hdl1.below heb
      obtain ⟨w5, hw5⟩ : ∃ x : World, x = e.to := ⟨_, rfl⟩
      rw [← hw5] at heb hez hgg o1 hcs3 hown4 hdl4 ⊢
      clear hw5
      refine wpList_app_g elDisp rfl _ _ rfl B a' k c' _ rfl hown4 (some ⟨gg, 0, none⟩) 1 1 _ rfl (fun h => by cases h) rfl hgg.src (fun u hu => by simp at hu; rcases hu with rfl | rfl | rfl | rfl <;> rfl) (by unfold maxLen; omega) (by omega) (by omega) ?_
      intro a6 c6 w6 hown6 hb6 hg6
      have hcs6 := hcs3.grown hg6 (hcs3.not_row (by decide) hown4)
      have o6 := o1.grown hg6 (OwnL.apart (by decide) o1 hown4)
      have hdl6 := (hdl4.grown (by decide) hown4 hg6).snoc ⟨py, lo, hi2, l⟩ o6
      have g6 := hcs6.cell 3
      have gf6 := hcs6.frozen 3
      have gl6 := hcs6.lt
      simp at g6
      have hcs7 := hcs6.set 3 (.slice a6 (k + 1) c6)
      have hown8 := hown6.store (p := ⟨w.heap.size + 1 + 1, 3, none⟩) (by show w.heap.size + 1 + 1 < B; omega) (.slice a6 (k + 1) c6)
      have hdl8 := hdl6.store (p := ⟨w.heap.size + 1 + 1, 3, none⟩) (by show w.heap.size + 1 + 1 < B; omega) (.slice a6 (k + 1) c6)
      have hb9 : Below (w.heap.size + 1 + 1) W0 (w6.setCell ⟨w.heap.size + 1 + 1, 3, none⟩ (.slice a6 (k + 1) c6)) := (((hb.trans (bX1.mono (by omega))).trans (heb.mono (by have := hb.size; have := bX1.size; omega))).trans (hb6.mono (by omega))).setCell (p := ⟨w.heap.size + 1 + 1, 3, none⟩) (Nat.le_refl _) _
      clear hcs6 hown6 hcs3 hown4 hdl4 hdl6 hgg o1 o6 y0 y1 y2 y3 x3 hcx1 own1 hdl1 C5
      go_wp2
      go_roundw
      case rel => exact ⟨k + 1, a6, c6, _, by omega, by go_num, hcs7, hown8, by rw [Htk.out]; exact hdl8, hb9⟩
      case measure => simp [intOf]; omega
    · obtain rfl : k = ds.length := by omega
      have gc0 := hcx.cell 0
      have gc1 := hcx.cell 1
      have gc2 := hcx.cell 2
      have gc3 := hcx.cell 3
      have hr1 : Cells X (w.heap.size + 1) #[.int .i64 0, .int .i64 0, .int .i64 0, .slice none 0 0] 55 := (hb.block (w.heap.size + 1) (by omega)).trans CR
      have rc0 := hr1.cell 0
      have rc1 := hr1.cell 1
      have rc2 := hr1.cell 2
      have rc3 := hr1.cell 3
      have rf0 := hr1.frozen 0
      have rf1 := hr1.frozen 1
      have rf2 := hr1.frozen 2
      have rf3 := hr1.frozen 3
      have rl := hr1.lt
      have xl := hcx.lt
      simp at gc0 gc1 gc2 gc3 rc0 rc1 rc2 rc3
      rw [List.take_length] at hdl
      have hN : ∀ k v, (⟨w.heap.size + 1, k, v⟩ : Addr).block < B := fun k v => by show w.heap.size + 1 < B; omega
      go_wp2
      have hrX := (((hr1.set 0 (.int .i64 st)).set 1 (.int .i64 rate)).set 2 (.int .i64 keeps)).set 3 (.slice a' ds.length c')
      refine bodyPost_ret (results_cell1 rfl rfl (load_acc hrX)) rfl ?_
      exact ⟨⟨a', ⟨c', rfl⟩, ((((hdl.store (hN 0 none) _).store (hN 1 none) _).store (hN 2 none) _).store (hN 3 none) _).dis ((((own.store (hN 0 none) _).store (hN 1 none) _).store (hN 2 none) _).store (hN 3 none) _)⟩, (((bX.setCell (by simp) _).setCell (by simp) _).setCell (by simp) _).setCell (by simp) _⟩
end
end Go.Proofs.Ytaphfibfjepceaa
