/- cipher: ProvePlan -/
import Derived.Test.YtmplgcefhpobgaaDo
import Derived.Deep.Cut
namespace Go.Proofs.Ytmplgcefhpobgaa
set_option linter.unusedVariables false
set_option linter.unusedSimpArgs false
set_option linter.unnecessarySimpa false
open Go.RowKit Go.Flow

/-- What ProvePlan answers, from a spot on. -/
def provB (F : Nat → Int) (m : Int) : Spot → List Int → Int → Bool
  | _, [], c => decide (0 ≤ c)
  | s, x :: l, c => mayB (F x.toNat) m s x.toNat && provB F m (s.bump x.toNat) l (c - mayC s x.toNat)
theorem provB_drop (F : Nat → Int) (m : Int) (s : Spot) (l : List Int) (c : Int) (k : Nat) (h : k < l.length) : provB F m s (l.drop k) c = (mayB (F l[k].toNat) m s l[k].toNat && provB F m (s.bump l[k].toNat) (l.drop (k + 1)) (c - mayC s l[k].toNat)) := by
  rw [List.drop_eq_getElem_cons h]; rfl
def Spot.cells7 (s : Spot) : Array Value := #[.int .i64 s.day, .int .i64 s.last, .int .i64 s.u0, .int .i64 s.u1, .int .i64 s.u2, .int .i64 s.u3, .int .i64 s.u4]
theorem losses_eqE (s wo : Int) (ak : Option Addr) (ks : List (Int × Int × Int)) (ck : Nat) (ad : Option Addr) (ds : List Int) (cd : Nat) (al : Option Addr) (lost : List (Int × Int)) (cl : Nat) (E : Int) (hE : Hid (lossErr s wo ks ds lost = E)) (w : World) (hk : Recs3At w ak ks) (hd : IntsAt w ad ds) (lk : ks.length ≤ 1000) (ld : ds.length ≤ 1000) (hl : Recs2At w al lost) (ll : lost.length ≤ 1000) :
    Calls Try.prog 71 #[.agg #[.int .i64 s, .int .i64 wo, .slice ak ks.length ck, .slice ad ds.length cd], .slice al lost.length cl] w fun e w' => e = .returned (.int .i64 E) ∧ Below w.heap.size w w' := by
  rw [← hE.out]; exact losses_any s wo ak ks ck ad ds cd al lost cl w hk hd lk ld hl ll
theorem within_eqE (a b c : Int) (r : Bool) (h : Hid ((decide (b ≤ a) && decide (a ≤ c)) = r)) (w : World) :
    Calls Try.prog 51 #[.int .i64 a, .int .i64 b, .int .i64 c] w fun e w' => e = .returned (.bool r) ∧ w = w' := by
  rw [← h.out]; exact within_any a b c w
theorem all_intE (a : Option Addr) (xs : List Int) (c : Nat) (g : FuncId) (first cap : Array Value) (p : Int → Bool) (r : Bool) (hr : Hid (xs.all p = r)) (w : World) (hl : xs.length ≤ 9223372036854775807) (hx : IntsAt w a xs)
    (hg : ∀ args w, Sem.run Try.prog (callFunc g args) w = .ok (.enter g args) w) (hp : ∀ x ∈ xs, Meets Try.prog w g first cap (.int .i64 x) (p x)) :
    Calls Try.prog 54 #[.slice a xs.length c, .func (.func g) first cap] w fun e w' => e = .returned (.bool r) ∧ Below w.heap.size w w' := by
  rw [← hr.out]; exact all_int a xs c g first cap p w hl hx hg hp

set_option maxRecDepth 100000 in
set_option maxHeartbeats 8000000 in
theorem prove_any (s wo : Int) (ak : Option Addr) (ks : List (Int × Int × Int)) (ck : Nat) (ad : Option Addr) (ds : List Int) (cd : Nat) (al : Option Addr) (lost : List (Int × Int)) (cl : Nat) (m : Int) (ax : Option Addr) (l : List Int) (cx : Nat) (c : Int) (r : Bool) (Hr : Hid (provB (fun j => hadN lost j) m spot0 l c = r)) (w : World) (hk : Recs3At w ak ks) (hd : IntsAt w ad ds) (lk : ks.length ≤ 1000) (ld : ds.length ≤ 1000) (hl : Recs2At w al lost) (ll : lost.length ≤ 1000) (hx : IntsAt w ax l)
    (hE : Hid (lossErr s wo ks ds lost = 0)) (m0 : 0 ≤ m) (m8 : m ≤ 8) (hlen : l.length = ds.length) (hown : Hid (l.all (ownOk ks.length) = true)) (lk5 : ks.length ≤ 5) (c0 : -2000000 ≤ c) (c1 : c ≤ 2000000) :
    Calls Try.prog 38 #[.agg #[.int .i64 s, .int .i64 wo, .slice ak ks.length ck, .slice ad ds.length cd], .slice al lost.length cl, .int .i64 m, .slice ax l.length cx, .int .i64 c] w fun e w' => e = .returned (.bool r) ∧ Below w.heap.size w w' := by
  have hM : Hid ((decide (0 ≤ m) && decide (m ≤ 8)) = true) := Lib.hid (by simp; omega)
  have hL : ((l.length : Int) != (ds.length : Int)) = false := by simp; omega
  have lx : l.length ≤ 1000 := by omega
  have qB := BookAt.new w s wo ak ks.length ck ad ds.length cd 32
  have Hlen := Lib.hid hlen
  clear hlen
  go_enter Try.func38, Try.ntmps38
  go_wp2_with fail
  go_at_call 71
  refine (losses_eqE s wo ak ks ck ad ds cd al lost cl 0 hE _ (hk.below (by (repeat (first | exact Below.refl _ _ | refine Below.alloc ?_ (by first | omega | (simp; done) | (simp; omega)) _ | refine Below.drew ?_ | refine Below.setCell ?_ (by first | omega | (simp; done) | (simp; omega)) _ | refine Below.trans ?_ (Below.mono (by assumption) (by first | omega | (simp; done) | (simp; omega))))))) (hd.below (by (repeat (first | exact Below.refl _ _ | refine Below.alloc ?_ (by first | omega | (simp; done) | (simp; omega)) _ | refine Below.drew ?_ | refine Below.setCell ?_ (by first | omega | (simp; done) | (simp; omega)) _ | refine Below.trans ?_ (Below.mono (by assumption) (by first | omega | (simp; done) | (simp; omega))))))) lk ld (hl.below (by (repeat (first | exact Below.refl _ _ | refine Below.alloc ?_ (by first | omega | (simp; done) | (simp; omega)) _ | refine Below.drew ?_ | refine Below.setCell ?_ (by first | omega | (simp; done) | (simp; omega)) _ | refine Below.trans ?_ (Below.mono (by assumption) (by first | omega | (simp; done) | (simp; omega))))))) ll).mono ?_
  rintro e w1 ⟨rfl, b1⟩
  have t1 : Below w.heap.size w w1 := by (repeat (first | exact Below.refl _ _ | refine Below.alloc ?_ (by first | omega | (simp; done) | (simp; omega)) _ | refine Below.drew ?_ | refine Below.setCell ?_ (by first | omega | (simp; done) | (simp; omega)) _ | refine Below.trans ?_ (Below.mono (by assumption) (by first | omega | (simp; done) | (simp; omega)))))
  obtain ⟨q0, q1, q2, q3⟩ := BookAt.of (b1.mono (by simp))
  have lB := cell_lt q0
  simp only at lB
  go_wp2_with fail
  go_at_call 51
  refine (within_eqE m 0 8 true hM _).mono ?_
  rintro e _ ⟨rfl, rfl⟩
  go_wp2_with fail
  go_at_call 54
  refine (all_intE ax l cx 50 #[.agg #[.int .i64 s, .int .i64 wo, .slice ak ks.length ck, .slice ad ds.length cd]] #[] (ownOk ks.length) true hown _ (by omega) (hx.below t1) (enters Try.func50 (by kernel_rfl) rfl) (fun x _ => own_meets s wo ak ks ck ad ds cd x _ lk)).mono ?_
  rintro e w2 ⟨rfl, b2⟩
  have t2 := t1.trans (b2.mono t1.size)
  replace q0 := below_cell b2 q0
  replace q1 := below_cell b2 q1
  replace q2 := below_cell b2 q2
  replace q3 := below_cell b2 q3
  replace lB := Nat.lt_of_lt_of_le lB b2.size
  go_wp2_with fail
  obtain ⟨W0, hW0⟩ : ∃ x : World, x = (w2.alloc (.cells #[.int .i64 s, .int .i64 wo, .slice ak ks.length ck, .slice ad ds.length cd, .slice al lost.length cl, .int .i64 m, .map none] 116)).alloc (.cells #[.int .i64 0, .int .i64 0, .int .i64 0, .int .i64 0, .int .i64 0, .int .i64 0, .int .i64 0] 121) := ⟨_, rfl⟩
  have j0 : Below w2.heap.size w2 W0 := by rw [hW0]; (repeat (first | exact Below.refl _ _ | refine Below.alloc ?_ (by first | omega | (simp; done) | (simp; omega)) _ | refine Below.drew ?_ | refine Below.setCell ?_ (by first | omega | (simp; done) | (simp; omega)) _ | refine Below.trans ?_ (Below.mono (by assumption) (by first | omega | (simp; done) | (simp; omega)))))
  have t0 : Below w.heap.size w W0 := t2.trans (j0.mono t2.size)
  have z0 : W0.heap.size = w2.heap.size + 1 + 1 := by rw [hW0]; simp
  have cW0 := Cells.new w2 #[.int .i64 s, .int .i64 wo, .slice ak ks.length ck, .slice ad ds.length cd, .slice al lost.length cl, .int .i64 m, .map none] 116
  have cW : Cells W0 w2.heap.size #[.int .i64 s, .int .i64 wo, .slice ak ks.length ck, .slice ad ds.length cd, .slice al lost.length cl, .int .i64 m, .map none] 116 := by
    rw [hW0]; exact cW0.below ((Below.refl _ _).alloc (Nat.le_refl _) _)
  have cS : Cells W0 (w2.heap.size + 1) spot0.cells7 121 := by
    rw [hW0]
    have := Cells.new (w2.alloc (.cells #[.int .i64 s, .int .i64 wo, .slice ak ks.length ck, .slice ad ds.length cd, .slice al lost.length cl, .int .i64 m, .map none] 116)) #[.int .i64 0, .int .i64 0, .int .i64 0, .int .i64 0, .int .i64 0, .int .i64 0, .int .i64 0] 121
    rwa [show (w2.alloc (.cells #[.int .i64 s, .int .i64 wo, .slice ak ks.length ck, .slice ad ds.length cd, .slice al lost.length cl, .int .i64 m, .map none] 116)).heap.size = w2.heap.size + 1 by simp] at this
  rw [← hW0]
  have z2 : w.heap.size ≤ w2.heap.size := t2.size
  clear hW0 cW0 qB q0 q1 q2 q3
  obtain ⟨g, hg⟩ : ∃ g, w2.heap.size + 1 = g := ⟨_, rfl⟩
  obtain ⟨b0, hb0⟩ : ∃ g, w2.heap.size = g := ⟨_, rfl⟩
  have hgb : b0 < g := by omega
  have hwb : w.heap.size ≤ b0 := by omega
  have hgz : g ≤ W0.heap.size := by omega
  rw [hg] at cS ⊢
  rw [hb0] at cW ⊢
  clear hg hb0 z0 j0 z2 t1 t2 b1 b2 lB
  have e4 := cW.cell 4
  have e5 := cW.cell 5
  simp at e4 e5
  have lW := cW.lt
  clear cW
  go_loopw [4, 51] (fun v i wr => ∃ (k : Nat) (sp : Spot) (d : Int), k ≤ l.length ∧ i = .int .i64 k ∧ v = .int .i64 d ∧ c - k ≤ d ∧ d ≤ c ∧ sp.Ok l.length ∧ sp.day = k ∧ Cells wr g sp.cells7 121 ∧ Hid (provB (fun j => hadN lost j) m sp (l.drop k) d = r) ∧ Below g W0 wr) (fun _ i _ => l.length - (intOf i).toNat)
  case atStart => exact ⟨0, spot0, c, Nat.zero_le _, rfl, rfl, by omega, by omega, spot0_ok _, rfl, cS, Hr, Below.refl _ _⟩
  case round =>
    obtain ⟨k, sp, d, hkl, rfl, rfl, hd0, hd1, hsp, hday, cR, HR, bR⟩ := hrel
    have tR : Below w.heap.size w wr := t0.trans (bR.mono (by omega))
    by_cases hlt : k < l.length
    · obtain ⟨b, off, rfl, hbl0, c00⟩ := hx k hlt
      have c0 := (tR.cell (p := ⟨b, off + k, none⟩) hbl0).trans c00
      have hbl := Nat.lt_of_lt_of_le hbl0 tR.size
      have hst := provB_drop (fun j => hadN lost j) m sp l d k hlt
      have hltI : (k : Int) < (l.length : Int) := by omega
      replace c0 := c0.trans (by rw [List.getD_eq_getElem?_getD, List.getElem?_eq_getElem hlt]; rfl : _ = some (Value.int .i64 l[k]))
      have hox := List.all_eq_true.1 hown.out l[k] (List.getElem_mem hlt)
      obtain ⟨kk, hxe⟩ : ∃ kk : Nat, l[k] = kk := ⟨l[k].toNat, by simp [ownOk] at hox; omega⟩
      have hk5 : kk < 5 := by rw [hxe] at hox; simp [ownOk] at hox; omega
      rw [hxe, Int.toNat_natCast] at hst
      rw [hxe] at c0
      have e4R := (bR.cell (p := ⟨b0, 4, none⟩) hgb).trans e4
      have e5R := (bR.cell (p := ⟨b0, 5, none⟩) hgb).trans e5
      have lbR : b0 < wr.heap.size := Nat.lt_of_lt_of_le lW bR.size
      have hfine := hsp.fine lx
      have hsb := hsp.bump (by rw [hday]; omega) kk
      have hbd := bump_day sp kk
      rw [hday] at hbd
      have hmc := mayC_b sp kk
      have hmay := may_any b0 al lost cl m sp kk hk5
      obtain ⟨C, hC⟩ : ∃ C, mayC sp kk = C := ⟨_, rfl⟩
      rw [hC] at hst hmc
      have hgl := cR.lt
      have hst2 : r = (mayB (hadN lost kk) m sp kk && provB (fun j => hadN lost j) m (sp.bump kk) (l.drop (k + 1)) (d - C)) := by rw [← HR.out, hst]
      have Hst := Lib.hid hst2
      have Hbd := Lib.hid hbd
      obtain ⟨sn, hsn⟩ : ∃ sn, sp.bump kk = sn := ⟨_, rfl⟩
      rw [hsn] at Hst hsb Hbd
      have hres : mayRes (hadN lost kk) m sp kk = if mayB (hadN lost kk) m sp kk then .tuple #[sn.val, .int .i64 C, .bool true] else .tuple #[sp.val, .int .i64 0, .bool false] := by unfold mayRes; rw [hsn, hC]
      clear hst hst2 hbd hox hxe hsn hC HR c00 hday
      obtain ⟨a0, a1, a2, a3, a4, a5, a6⟩ := sp
      obtain ⟨n0, n1, n2, n3, n4, n5, n6⟩ := sn
      have p0 := cR.cell 0
      have p1 := cR.cell 1
      have p2 := cR.cell 2
      have p3 := cR.cell 3
      have p4 := cR.cell 4
      have p5 := cR.cell 5
      have p6 := cR.cell 6
      simp [Spot.cells7] at p0 p1 p2 p3 p4 p5 p6
      cases hB : mayB (hadN lost kk) m ⟨a0, a1, a2, a3, a4, a5, a6⟩ kk
      · have Hf : Hid (r = false) := Lib.hid (by rw [Hst.out, hB]; rfl)
        rw [hB] at hres
        have hres2 : mayRes (hadN lost kk) m ⟨a0, a1, a2, a3, a4, a5, a6⟩ kk = .tuple #[.agg #[.int .i64 a0, .int .i64 a1, .int .i64 a2, .int .i64 a3, .int .i64 a4, .int .i64 a5, .int .i64 a6], .int .i64 0, .bool false] := by rw [hres]; rfl
        have Hres := Lib.hid hres2
        clear hres hres2 hB Hst
        go_wp2_with fail
        go_at_call 77
        refine (hmay _ lbR e4R e5R (hl.below tR) ll hfine).mono ?_
        rw [Hres.out]
        rintro e w3 ⟨rfl, b3⟩
        go_wp2_with fail
        go_ret
        rw [Hf.out]
        have t3 := tR.trans (b3.mono tR.size)
        exact ⟨rfl, t3.alloc t3.size _⟩
      · have hst3 : r = provB (fun j => hadN lost j) m ⟨n0, n1, n2, n3, n4, n5, n6⟩ (l.drop (k + 1)) (d - C) := by rw [Hst.out, hB]; rfl
        rw [hB] at hres
        have hres2 : mayRes (hadN lost kk) m ⟨a0, a1, a2, a3, a4, a5, a6⟩ kk = .tuple #[.agg #[.int .i64 n0, .int .i64 n1, .int .i64 n2, .int .i64 n3, .int .i64 n4, .int .i64 n5, .int .i64 n6], .int .i64 C, .bool true] := by rw [hres]; rfl
        have Hres := Lib.hid hres2
        have Hst3 := Lib.hid hst3
        clear hres hres2 hB Hst hst3
        go_wp2_with fail
        go_at_call 77
        refine (hmay _ lbR e4R e5R (hl.below tR) ll hfine).mono ?_
        rw [Hres.out]
        rintro e w3 ⟨rfl, b3⟩
        have z3 := b3.size
        have cR3 := cR.below b3
        have f0 := cR3.frozen 0
        have f1 := cR3.frozen 1
        have f2 := cR3.frozen 2
        have f3 := cR3.frozen 3
        have f4 := cR3.frozen 4
        have f5 := cR3.frozen 5
        have f6 := cR3.frozen 6
        have p0' := cR3.cell 0
        have p1' := cR3.cell 1
        have p2' := cR3.cell 2
        have p3' := cR3.cell 3
        have p4' := cR3.cell 4
        have p5' := cR3.cell 5
        have p6' := cR3.cell 6
        simp [Spot.cells7] at p0' p1' p2' p3' p4' p5' p6'
        have hg3 : g < w3.heap.size := by omega
        clear p0 p1 p2 p3 p4 p5 p6
        have cN := (((((((cR3.set 0 (.int .i64 n0)).set 1 (.int .i64 n1)).set 2 (.int .i64 n2)).set 3 (.int .i64 n3)).set 4 (.int .i64 n4)).set 5 (.int .i64 n5)).set 6 (.int .i64 n6))
        have bN := ((((((((bR.trans (b3.mono (by have := bR.size; omega))).setCell (p := ⟨g, 0, none⟩) (Nat.le_refl _) (.int .i64 n0)).setCell (p := ⟨g, 1, none⟩) (Nat.le_refl _) (.int .i64 n1)).setCell (p := ⟨g, 2, none⟩) (Nat.le_refl _) (.int .i64 n2)).setCell (p := ⟨g, 3, none⟩) (Nat.le_refl _) (.int .i64 n3)).setCell (p := ⟨g, 4, none⟩) (Nat.le_refl _) (.int .i64 n4)).setCell (p := ⟨g, 5, none⟩) (Nat.le_refl _) (.int .i64 n5)).setCell (p := ⟨g, 6, none⟩) (Nat.le_refl _) (.int .i64 n6))
        go_wp2_with fail
        go_roundw
        case rel => exact ⟨k + 1, ⟨n0, n1, n2, n3, n4, n5, n6⟩, d - C, by omega, by go_num, rfl, by omega, by omega, hsb, by have := Hbd.out; simpa using this, cN.below ((Below.refl _ _).alloc (Nat.le_refl _) _), Lib.hid Hst3.out.symm, bN.alloc (by simp; omega) _⟩
        case measure => simp [intOf]; omega
    · have hkl2 : k = l.length := by omega
      have Hf : Hid (r = decide (0 ≤ d)) := Lib.hid (by rw [← HR.out, List.drop_eq_nil_of_le (by omega)]; rfl)
      subst hkl2
      clear HR hday
      go_wp2_with fail
      go_ret
      rw [Hf.out]
      exact ⟨rfl, tR⟩
end Go.Proofs.Ytmplgcefhpobgaa
