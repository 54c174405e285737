/- CipherMore: the walk -/
import Derived.Test.YtmplgcefhpobgaaDl
import Derived.Test.YtmplgcefhpobgaaMi
namespace Go.Proofs.Ytmplgcefhpobgaa
set_option linter.unusedVariables false
set_option linter.unusedSimpArgs false
set_option linter.unnecessarySimpa false
open Go.RowKit Go.Flow

theorem Recs2At.none1 {w : World} {a : Option Addr} {xs : List (Int × Int)} (h : Recs2At w a xs) (ha : a = none) : xs.length = 0 := by
  subst ha
  cases xs with
  | nil => rfl
  | cons x l => obtain ⟨b, off, e, _⟩ := h 0 (by simp); cases e
theorem has_eqM (a : Option Addr) (l : List Int) (c : Nat) (n : Int) (r : Bool) (hr : Hid (l.any (· == n) = r)) (w : World) (hl : IntsAt w a l) (ll : l.length ≤ 1000) :
    Calls Try.prog 46 #[.slice a l.length c, .int .i64 n] w fun e w' => e = .returned (.bool r) ∧ w = w' := by
  rw [← hr.out]; exact has_any a l c n w hl ll
theorem u8_bM {a : Int} (h : (Lit.int .u8 a).wf = true) : 0 ≤ a ∧ a ≤ 255 := by
  simp [Lit.wf, IntKind.min, IntKind.max, IntKind.bits, IntKind.signed] at h; omega
theorem Recs2At.nil0 (w : World) : Recs2At w none [] := fun k hk => by simp at hk

set_option maxRecDepth 100000 in
set_option maxHeartbeats 8000000 in
theorem more_a (s wo : Int) (ak : Option Addr) (ks : List (Int × Int × Int)) (ck : Nat) (ad : Option Addr) (ds : List Int) (cd : Nat) (ac : Option Addr) (codes : List Int) (cc : Nat) (ag : Option Addr) (gs : List (Int × Int)) (cg : Nat) (x y : Int) (A : Nat) (w : World) (hk : Recs3At w ak ks) (hd : IntsAt w ad ds) (nd : ad = none → cd = 0) (hc : IntsAt w ac codes) (nc : ac = none → cc = 0) (hg : Recs2At w ag gs) (ng : ag = none → cg = 0) (hA : A ≤ 255) (hR : readyB s wo ks ds codes = false) :
    Calls Try.prog 14 #[.agg #[.int .i64 s, .int .i64 wo, .slice ak ks.length ck, .slice ad ds.length cd], .slice ac codes.length cc, .slice ag gs.length cg, .agg #[.int .i64 x, .int .i64 y], .int .u8 A] w fun e w' => e = .returned (.bool true) ∧ Below w.heap.size w w' := by

  have HR := Lib.hid hR
  clear hR
  go_enter Try.func14, Try.ntmps14
  go_wp2_with fail
  obtain ⟨W0, hW0⟩ : ∃ z : World, z = (w.alloc (.cells #[.int .i64 s, .int .i64 wo, .slice ak ks.length ck, .slice ad ds.length cd] 25)).alloc (.cells #[.int .i64 x, .int .i64 y] 85) := ⟨_, rfl⟩
  have t0 : Below w.heap.size w W0 := by rw [hW0]; (repeat (first | exact Below.refl _ _ | refine Below.alloc ?_ (by first | omega | (simp; done) | (simp; omega)) _ | refine Below.drew ?_ | refine Below.setCell ?_ (by first | omega | (simp; done) | (simp; omega)) _ | refine Below.trans ?_ (Below.mono (by assumption) (by first | omega | (simp; done) | (simp; omega)))))
  obtain ⟨q0, q1, q2, q3⟩ : BookAt W0 w.heap.size s wo ak ks.length ck ad ds.length cd := by rw [hW0]; exact (BookAt.new w s wo ak ks.length ck ad ds.length cd 25).below ((Below.refl _ _).alloc (Nat.le_refl _) _)
  have cM : Cells W0 (w.heap.size + 1) #[.int .i64 x, .int .i64 y] 85 := by
    rw [hW0]
    have := Cells.new (w.alloc (.cells #[.int .i64 s, .int .i64 wo, .slice ak ks.length ck, .slice ad ds.length cd] 25)) #[.int .i64 x, .int .i64 y] 85
    rwa [show (w.alloc (.cells #[.int .i64 s, .int .i64 wo, .slice ak ks.length ck, .slice ad ds.length cd] 25)).heap.size = w.heap.size + 1 by simp] at this
  have m0 := cM.cell 0
  have m1 := cM.cell 1
  simp at m0 m1
  rw [← hW0]
  clear hW0 cM
  have lB := cell_lt q0
  have lM := cell_lt m0
  simp only at lB lM
  have b1 := t0
  obtain ⟨w1, hwq⟩ : ∃ x : World, x = W0 := ⟨_, rfl⟩
  subst hwq
  have t1 : Below w.heap.size w w1 := by (repeat (first | exact Below.refl _ _ | refine Below.alloc ?_ (by first | omega | (simp; done) | (simp; omega)) _ | refine Below.drew ?_ | refine Below.setCell ?_ (by first | omega | (simp; done) | (simp; omega)) _ | refine Below.trans ?_ (Below.mono (by assumption) (by first | omega | (simp; done) | (simp; omega)))))
  replace hk := hk.below t1
  replace hd := hd.below t1
  replace hc := hc.below t1
  replace hg := hg.below t1
  go_at_call 33
  refine (ready_eq s wo ak ks ck ad ds cd ac codes cc false HR _ hk hd hc).mono ?_
  rintro e w2 ⟨rfl, b2⟩
  have j2 : Below w1.heap.size w1 w2 := by (repeat (first | exact Below.refl _ _ | refine Below.alloc ?_ (by first | omega | (simp; done) | (simp; omega)) _ | refine Below.drew ?_ | refine Below.setCell ?_ (by first | omega | (simp; done) | (simp; omega)) _ | refine Below.trans ?_ (Below.mono (by assumption) (by first | omega | (simp; done) | (simp; omega)))))
  have t2 : Below w.heap.size w w2 := t1.trans (j2.mono t1.size)
  replace hk := hk.below j2
  replace hd := hd.below j2
  replace hc := hc.below j2
  replace hg := hg.below j2
  replace q0 := below_cell j2 q0
  replace q1 := below_cell j2 q1
  replace q2 := below_cell j2 q2
  replace q3 := below_cell j2 q3
  replace m0 := below_cell j2 m0
  replace m1 := below_cell j2 m1
  replace lB := Nat.lt_of_lt_of_le lB j2.size
  replace lM := Nat.lt_of_lt_of_le lM j2.size
  go_wp2_with fail
  go_at_call 17
  refine (awake_any _).mono ?_
  rintro e w3 ⟨rfl, b3⟩
  have j3 : Below w2.heap.size w2 w3 := by (repeat (first | exact Below.refl _ _ | refine Below.alloc ?_ (by first | omega | (simp; done) | (simp; omega)) _ | refine Below.drew ?_ | refine Below.setCell ?_ (by first | omega | (simp; done) | (simp; omega)) _ | refine Below.trans ?_ (Below.mono (by assumption) (by first | omega | (simp; done) | (simp; omega)))))
  have t3 : Below w.heap.size w w3 := t2.trans (j3.mono t2.size)
  replace hk := hk.below j3
  replace hd := hd.below j3
  replace hc := hc.below j3
  replace hg := hg.below j3
  replace q0 := below_cell j3 q0
  replace q1 := below_cell j3 q1
  replace q2 := below_cell j3 q2
  replace q3 := below_cell j3 q3
  replace m0 := below_cell j3 m0
  replace m1 := below_cell j3 m1
  replace lB := Nat.lt_of_lt_of_le lB j3.size
  replace lM := Nat.lt_of_lt_of_le lM j3.size
  go_wp2_with fail
  go_ret
  exact ⟨rfl, t3⟩

set_option maxRecDepth 100000 in
set_option maxHeartbeats 8000000 in
theorem more_a2 (s wo : Int) (ak : Option Addr) (ks : List (Int × Int × Int)) (ck : Nat) (ad : Option Addr) (ds : List Int) (cd : Nat) (ac : Option Addr) (codes : List Int) (cc : Nat) (ag : Option Addr) (gs : List (Int × Int)) (cg : Nat) (x y : Int) (A : Nat) (w : World) (hk : Recs3At w ak ks) (hd : IntsAt w ad ds) (nd : ad = none → cd = 0) (hc : IntsAt w ac codes) (nc : ac = none → cc = 0) (hg : Recs2At w ag gs) (ng : ag = none → cg = 0) (hA : A ≤ 255) (hR : readyB s wo ks ds codes = true) (dz : ((codes.length : Int) == 0) = true) :
    Calls Try.prog 14 #[.agg #[.int .i64 s, .int .i64 wo, .slice ak ks.length ck, .slice ad ds.length cd], .slice ac codes.length cc, .slice ag gs.length cg, .agg #[.int .i64 x, .int .i64 y], .int .u8 A] w fun e w' => e = .returned (.bool true) ∧ Below w.heap.size w w' := by

  have HR := Lib.hid hR
  clear hR
  go_enter Try.func14, Try.ntmps14
  go_wp2_with fail
  obtain ⟨W0, hW0⟩ : ∃ z : World, z = (w.alloc (.cells #[.int .i64 s, .int .i64 wo, .slice ak ks.length ck, .slice ad ds.length cd] 25)).alloc (.cells #[.int .i64 x, .int .i64 y] 85) := ⟨_, rfl⟩
  have t0 : Below w.heap.size w W0 := by rw [hW0]; (repeat (first | exact Below.refl _ _ | refine Below.alloc ?_ (by first | omega | (simp; done) | (simp; omega)) _ | refine Below.drew ?_ | refine Below.setCell ?_ (by first | omega | (simp; done) | (simp; omega)) _ | refine Below.trans ?_ (Below.mono (by assumption) (by first | omega | (simp; done) | (simp; omega)))))
  obtain ⟨q0, q1, q2, q3⟩ : BookAt W0 w.heap.size s wo ak ks.length ck ad ds.length cd := by rw [hW0]; exact (BookAt.new w s wo ak ks.length ck ad ds.length cd 25).below ((Below.refl _ _).alloc (Nat.le_refl _) _)
  have cM : Cells W0 (w.heap.size + 1) #[.int .i64 x, .int .i64 y] 85 := by
    rw [hW0]
    have := Cells.new (w.alloc (.cells #[.int .i64 s, .int .i64 wo, .slice ak ks.length ck, .slice ad ds.length cd] 25)) #[.int .i64 x, .int .i64 y] 85
    rwa [show (w.alloc (.cells #[.int .i64 s, .int .i64 wo, .slice ak ks.length ck, .slice ad ds.length cd] 25)).heap.size = w.heap.size + 1 by simp] at this
  have m0 := cM.cell 0
  have m1 := cM.cell 1
  simp at m0 m1
  rw [← hW0]
  clear hW0 cM
  have lB := cell_lt q0
  have lM := cell_lt m0
  simp only at lB lM
  have b1 := t0
  obtain ⟨w1, hwq⟩ : ∃ x : World, x = W0 := ⟨_, rfl⟩
  subst hwq
  have t1 : Below w.heap.size w w1 := by (repeat (first | exact Below.refl _ _ | refine Below.alloc ?_ (by first | omega | (simp; done) | (simp; omega)) _ | refine Below.drew ?_ | refine Below.setCell ?_ (by first | omega | (simp; done) | (simp; omega)) _ | refine Below.trans ?_ (Below.mono (by assumption) (by first | omega | (simp; done) | (simp; omega)))))
  replace hk := hk.below t1
  replace hd := hd.below t1
  replace hc := hc.below t1
  replace hg := hg.below t1
  go_at_call 33
  refine (ready_eq s wo ak ks ck ad ds cd ac codes cc true HR _ hk hd hc).mono ?_
  rintro e w2 ⟨rfl, b2⟩
  have j2 : Below w1.heap.size w1 w2 := by (repeat (first | exact Below.refl _ _ | refine Below.alloc ?_ (by first | omega | (simp; done) | (simp; omega)) _ | refine Below.drew ?_ | refine Below.setCell ?_ (by first | omega | (simp; done) | (simp; omega)) _ | refine Below.trans ?_ (Below.mono (by assumption) (by first | omega | (simp; done) | (simp; omega)))))
  have t2 : Below w.heap.size w w2 := t1.trans (j2.mono t1.size)
  replace hk := hk.below j2
  replace hd := hd.below j2
  replace hc := hc.below j2
  replace hg := hg.below j2
  replace q0 := below_cell j2 q0
  replace q1 := below_cell j2 q1
  replace q2 := below_cell j2 q2
  replace q3 := below_cell j2 q3
  replace m0 := below_cell j2 m0
  replace m1 := below_cell j2 m1
  replace lB := Nat.lt_of_lt_of_le lB j2.size
  replace lM := Nat.lt_of_lt_of_le lM j2.size
  go_wp2_with fail
  go_at_call 17
  refine (awake_any _).mono ?_
  rintro e w3 ⟨rfl, b3⟩
  have j3 : Below w2.heap.size w2 w3 := by (repeat (first | exact Below.refl _ _ | refine Below.alloc ?_ (by first | omega | (simp; done) | (simp; omega)) _ | refine Below.drew ?_ | refine Below.setCell ?_ (by first | omega | (simp; done) | (simp; omega)) _ | refine Below.trans ?_ (Below.mono (by assumption) (by first | omega | (simp; done) | (simp; omega)))))
  have t3 : Below w.heap.size w w3 := t2.trans (j3.mono t2.size)
  replace hk := hk.below j3
  replace hd := hd.below j3
  replace hc := hc.below j3
  replace hg := hg.below j3
  replace q0 := below_cell j3 q0
  replace q1 := below_cell j3 q1
  replace q2 := below_cell j3 q2
  replace q3 := below_cell j3 q3
  replace m0 := below_cell j3 m0
  replace m1 := below_cell j3 m1
  replace lB := Nat.lt_of_lt_of_le lB j3.size
  replace lM := Nat.lt_of_lt_of_le lM j3.size
  go_wp2_with fail
  go_ret
  exact ⟨rfl, t3⟩

set_option maxRecDepth 100000 in
set_option maxHeartbeats 8000000 in
theorem more_a3 (s wo : Int) (ak : Option Addr) (ks : List (Int × Int × Int)) (ck : Nat) (ad : Option Addr) (ds : List Int) (cd : Nat) (ac : Option Addr) (codes : List Int) (cc : Nat) (ag : Option Addr) (gs : List (Int × Int)) (cg : Nat) (x y : Int) (A : Nat) (w : World) (hk : Recs3At w ak ks) (hd : IntsAt w ad ds) (nd : ad = none → cd = 0) (hc : IntsAt w ac codes) (nc : ac = none → cc = 0) (hg : Recs2At w ag gs) (ng : ag = none → cg = 0) (hA : A ≤ 255) (hR : readyB s wo ks ds codes = true) (dz : ((codes.length : Int) == 0) = false) (d5 : decide (5 < (gs.length : Int)) = true) :
    Calls Try.prog 14 #[.agg #[.int .i64 s, .int .i64 wo, .slice ak ks.length ck, .slice ad ds.length cd], .slice ac codes.length cc, .slice ag gs.length cg, .agg #[.int .i64 x, .int .i64 y], .int .u8 A] w fun e w' => e = .returned (.bool true) ∧ Below w.heap.size w w' := by

  have HR := Lib.hid hR
  clear hR
  go_enter Try.func14, Try.ntmps14
  go_wp2_with fail
  obtain ⟨W0, hW0⟩ : ∃ z : World, z = (w.alloc (.cells #[.int .i64 s, .int .i64 wo, .slice ak ks.length ck, .slice ad ds.length cd] 25)).alloc (.cells #[.int .i64 x, .int .i64 y] 85) := ⟨_, rfl⟩
  have t0 : Below w.heap.size w W0 := by rw [hW0]; (repeat (first | exact Below.refl _ _ | refine Below.alloc ?_ (by first | omega | (simp; done) | (simp; omega)) _ | refine Below.drew ?_ | refine Below.setCell ?_ (by first | omega | (simp; done) | (simp; omega)) _ | refine Below.trans ?_ (Below.mono (by assumption) (by first | omega | (simp; done) | (simp; omega)))))
  obtain ⟨q0, q1, q2, q3⟩ : BookAt W0 w.heap.size s wo ak ks.length ck ad ds.length cd := by rw [hW0]; exact (BookAt.new w s wo ak ks.length ck ad ds.length cd 25).below ((Below.refl _ _).alloc (Nat.le_refl _) _)
  have cM : Cells W0 (w.heap.size + 1) #[.int .i64 x, .int .i64 y] 85 := by
    rw [hW0]
    have := Cells.new (w.alloc (.cells #[.int .i64 s, .int .i64 wo, .slice ak ks.length ck, .slice ad ds.length cd] 25)) #[.int .i64 x, .int .i64 y] 85
    rwa [show (w.alloc (.cells #[.int .i64 s, .int .i64 wo, .slice ak ks.length ck, .slice ad ds.length cd] 25)).heap.size = w.heap.size + 1 by simp] at this
  have m0 := cM.cell 0
  have m1 := cM.cell 1
  simp at m0 m1
  rw [← hW0]
  clear hW0 cM
  have lB := cell_lt q0
  have lM := cell_lt m0
  simp only at lB lM
  have b1 := t0
  obtain ⟨w1, hwq⟩ : ∃ x : World, x = W0 := ⟨_, rfl⟩
  subst hwq
  have t1 : Below w.heap.size w w1 := by (repeat (first | exact Below.refl _ _ | refine Below.alloc ?_ (by first | omega | (simp; done) | (simp; omega)) _ | refine Below.drew ?_ | refine Below.setCell ?_ (by first | omega | (simp; done) | (simp; omega)) _ | refine Below.trans ?_ (Below.mono (by assumption) (by first | omega | (simp; done) | (simp; omega)))))
  replace hk := hk.below t1
  replace hd := hd.below t1
  replace hc := hc.below t1
  replace hg := hg.below t1
  go_at_call 33
  refine (ready_eq s wo ak ks ck ad ds cd ac codes cc true HR _ hk hd hc).mono ?_
  rintro e w2 ⟨rfl, b2⟩
  have j2 : Below w1.heap.size w1 w2 := by (repeat (first | exact Below.refl _ _ | refine Below.alloc ?_ (by first | omega | (simp; done) | (simp; omega)) _ | refine Below.drew ?_ | refine Below.setCell ?_ (by first | omega | (simp; done) | (simp; omega)) _ | refine Below.trans ?_ (Below.mono (by assumption) (by first | omega | (simp; done) | (simp; omega)))))
  have t2 : Below w.heap.size w w2 := t1.trans (j2.mono t1.size)
  replace hk := hk.below j2
  replace hd := hd.below j2
  replace hc := hc.below j2
  replace hg := hg.below j2
  replace q0 := below_cell j2 q0
  replace q1 := below_cell j2 q1
  replace q2 := below_cell j2 q2
  replace q3 := below_cell j2 q3
  replace m0 := below_cell j2 m0
  replace m1 := below_cell j2 m1
  replace lB := Nat.lt_of_lt_of_le lB j2.size
  replace lM := Nat.lt_of_lt_of_le lM j2.size
  go_wp2_with fail
  go_at_call 17
  refine (awake_any _).mono ?_
  rintro e w3 ⟨rfl, b3⟩
  have j3 : Below w2.heap.size w2 w3 := by (repeat (first | exact Below.refl _ _ | refine Below.alloc ?_ (by first | omega | (simp; done) | (simp; omega)) _ | refine Below.drew ?_ | refine Below.setCell ?_ (by first | omega | (simp; done) | (simp; omega)) _ | refine Below.trans ?_ (Below.mono (by assumption) (by first | omega | (simp; done) | (simp; omega)))))
  have t3 : Below w.heap.size w w3 := t2.trans (j3.mono t2.size)
  replace hk := hk.below j3
  replace hd := hd.below j3
  replace hc := hc.below j3
  replace hg := hg.below j3
  replace q0 := below_cell j3 q0
  replace q1 := below_cell j3 q1
  replace q2 := below_cell j3 q2
  replace q3 := below_cell j3 q3
  replace m0 := below_cell j3 m0
  replace m1 := below_cell j3 m1
  replace lB := Nat.lt_of_lt_of_le lB j3.size
  replace lM := Nat.lt_of_lt_of_le lM j3.size
  go_wp2_with fail
  go_ret
  exact ⟨rfl, t3⟩

set_option maxRecDepth 100000 in
set_option maxHeartbeats 8000000 in
theorem more_b (s wo : Int) (ak : Option Addr) (ks : List (Int × Int × Int)) (ck : Nat) (ad : Option Addr) (ds : List Int) (cd : Nat) (ac : Option Addr) (codes : List Int) (cc : Nat) (ag : Option Addr) (gs : List (Int × Int)) (cg : Nat) (x y : Int) (A : Nat) (w : World) (hk : Recs3At w ak ks) (hd : IntsAt w ad ds) (nd : ad = none → cd = 0) (hc : IntsAt w ac codes) (nc : ac = none → cc = 0) (hg : Recs2At w ag gs) (ng : ag = none → cg = 0) (hA : A ≤ 255) (hR : readyB s wo ks ds codes = true) (dz : ((codes.length : Int) == 0) = false) (h5 : gs.length ≤ 5) (E : Int) (hE : (E != 0) = true) (HE0 : Hid (askErr s wo ks ds codes (gs ++ [(x, y)]) = E)) :
    Calls Try.prog 14 #[.agg #[.int .i64 s, .int .i64 wo, .slice ak ks.length ck, .slice ad ds.length cd], .slice ac codes.length cc, .slice ag gs.length cg, .agg #[.int .i64 x, .int .i64 y], .int .u8 A] w fun e w' => e = .returned (.bool true) ∧ Below w.heap.size w w' := by

  obtain ⟨hbk, hl10, hpa⟩ := readyB_ok hR
  obtain ⟨lk5, ld8, s0, s1, _, _, _, k0, dd0, _⟩ := bookErr_ok hbk
  have lk : ks.length ≤ 1000 := by omega
  have ld : ds.length ≤ 1000 := by omega
  have d5 : decide (5 < (gs.length : Int)) = false := by simp; omega
  have HR := Lib.hid hR
  obtain ⟨X, hX⟩ : ∃ X, gs ++ [(x, y)] = X := ⟨_, rfl⟩
  have hXl : gs.length + 1 = X.length := by rw [← hX]; simp
  have HX := Lib.hid hX
  have HXl := Lib.hid hXl
  have lX : X.length ≤ 1000 := by omega
  clear hR hbk hpa hX hXl
  have HE : Hid (askErr s wo ks ds codes X = E) := Lib.hid (by rw [← HX.out]; exact HE0.out)
  clear HE0
  go_enter Try.func14, Try.ntmps14
  go_wp2_with fail
  obtain ⟨W0, hW0⟩ : ∃ z : World, z = (w.alloc (.cells #[.int .i64 s, .int .i64 wo, .slice ak ks.length ck, .slice ad ds.length cd] 25)).alloc (.cells #[.int .i64 x, .int .i64 y] 85) := ⟨_, rfl⟩
  have t0 : Below w.heap.size w W0 := by rw [hW0]; (repeat (first | exact Below.refl _ _ | refine Below.alloc ?_ (by first | omega | (simp; done) | (simp; omega)) _ | refine Below.drew ?_ | refine Below.setCell ?_ (by first | omega | (simp; done) | (simp; omega)) _ | refine Below.trans ?_ (Below.mono (by assumption) (by first | omega | (simp; done) | (simp; omega)))))
  obtain ⟨q0, q1, q2, q3⟩ : BookAt W0 w.heap.size s wo ak ks.length ck ad ds.length cd := by rw [hW0]; exact (BookAt.new w s wo ak ks.length ck ad ds.length cd 25).below ((Below.refl _ _).alloc (Nat.le_refl _) _)
  have cM : Cells W0 (w.heap.size + 1) #[.int .i64 x, .int .i64 y] 85 := by
    rw [hW0]
    have := Cells.new (w.alloc (.cells #[.int .i64 s, .int .i64 wo, .slice ak ks.length ck, .slice ad ds.length cd] 25)) #[.int .i64 x, .int .i64 y] 85
    rwa [show (w.alloc (.cells #[.int .i64 s, .int .i64 wo, .slice ak ks.length ck, .slice ad ds.length cd] 25)).heap.size = w.heap.size + 1 by simp] at this
  have m0 := cM.cell 0
  have m1 := cM.cell 1
  simp at m0 m1
  rw [← hW0]
  clear hW0 cM
  have lB := cell_lt q0
  have lM := cell_lt m0
  simp only at lB lM
  have b1 := t0
  obtain ⟨w1, hwq⟩ : ∃ x : World, x = W0 := ⟨_, rfl⟩
  subst hwq
  have t1 : Below w.heap.size w w1 := by (repeat (first | exact Below.refl _ _ | refine Below.alloc ?_ (by first | omega | (simp; done) | (simp; omega)) _ | refine Below.drew ?_ | refine Below.setCell ?_ (by first | omega | (simp; done) | (simp; omega)) _ | refine Below.trans ?_ (Below.mono (by assumption) (by first | omega | (simp; done) | (simp; omega)))))
  replace hk := hk.below t1
  replace hd := hd.below t1
  replace hc := hc.below t1
  replace hg := hg.below t1
  go_at_call 33
  refine (ready_eq s wo ak ks ck ad ds cd ac codes cc true HR _ hk hd hc).mono ?_
  rintro e w2 ⟨rfl, b2⟩
  have j2 : Below w1.heap.size w1 w2 := by (repeat (first | exact Below.refl _ _ | refine Below.alloc ?_ (by first | omega | (simp; done) | (simp; omega)) _ | refine Below.drew ?_ | refine Below.setCell ?_ (by first | omega | (simp; done) | (simp; omega)) _ | refine Below.trans ?_ (Below.mono (by assumption) (by first | omega | (simp; done) | (simp; omega)))))
  have t2 : Below w.heap.size w w2 := t1.trans (j2.mono t1.size)
  replace hk := hk.below j2
  replace hd := hd.below j2
  replace hc := hc.below j2
  replace hg := hg.below j2
  replace q0 := below_cell j2 q0
  replace q1 := below_cell j2 q1
  replace q2 := below_cell j2 q2
  replace q3 := below_cell j2 q3
  replace m0 := below_cell j2 m0
  replace m1 := below_cell j2 m1
  replace lB := Nat.lt_of_lt_of_le lB j2.size
  replace lM := Nat.lt_of_lt_of_le lM j2.size
  go_wp2_with fail
  have lW := b2.size
  (refine wp_region_seq 5 [] [5, 6] 195 [false, true, false, true, false] [LitV w2.heap.size 0 #[] 85, OwnV 85 2 w2.heap.size gs.length (flat2 gs), LitV w2.heap.size 1 #[.int .i64 x, .int .i64 y] 85] (by kernel_rfl) (by kernel_rfl) rfl (mono_cons (fun v w w' h hb => h.kept hb) (mono_cons (fun v w w' h hb => h.kept hb) (mono_cons (fun v w w' h hb => h.kept hb) mono_nil))) ?_; simp only [pickOps, List.filterMap_cons, List.filterMap_nil, List.getElem?_toArray, List.getElem?_cons_succ, List.getElem?_cons_zero]; (repeat (refine wpFl_step _ rfl (fun w => (by go_simp; rfl)) ?_)); refine wpFl_nil ?_; simp only [maskOps, dummy, Act.put, List.setIfInBounds_toArray, List.set_cons_zero, List.set_cons_succ, List.take_succ_cons, List.take_zero, List.drop_succ_cons, List.drop_zero]; (repeat (refine wpQB_step (fun K hK => ?_); go_simp; first | (refine hK _ ?_; clear hK K) | (apply Exists.intro; refine ⟨fun ex => ?_, hK _ ?_⟩; (fail); clear hK K))); refine wpQB_nil ?_; simp only [relObl2, under, relEnd, and_true, List.nil_append, List.cons_append])
  refine ⟨⟨fun e => ?_, fun e v1 h1 => ?_, fun e v1 h1 v2 h2 => ?_⟩, fun e => ?_⟩
  · go_simp
    exact ⟨(Below.refl _ _).alloc (Nat.le_refl _) _, e.to.heap.size, rfl, by have := e.size; omega, Cells.new _ _ _⟩
  · obtain ⟨g, rfl, hg9, hc9⟩ := h1 (by kernel_rfl)
    exact gives_app0 el_rguesses e.to w2.heap.size g _ _ rfl rfl hc9 hg9 ag gs.length cg (flat2 gs) rfl (fun h => ⟨hg.none1 h, ng h⟩) (flat2_len gs) (SrcAt.recs2 (hg.below e.below)) (by unfold maxLen; omega) (by omega)
  · go_simp
    exact ⟨(Below.refl _ _).alloc (Nat.le_refl _) _, e.to.heap.size, rfl, by have := e.size; omega, Cells.new _ _ _⟩
  rintro v1 _ v2 ⟨a2, c2, rfl, o2⟩ v3 ⟨g3, rfl, hg3, hc3⟩
  simp only [Act.put, List.setIfInBounds_toArray, List.set_cons_zero, List.set_cons_succ]
  have heb := e.below
  have hez := e.size
  obtain ⟨x2, hx2⟩ : ∃ x : World, x = e.to := ⟨_, rfl⟩
  rw [← hx2] at heb hez hc3 o2 ⊢
  clear hx2
  refine wpList_app el_rguesses rfl _ _ rfl w2.heap.size a2 gs.length c2 _ rfl o2 (some ⟨g3, 0, none⟩) 1 1 _ rfl (fun h => by cases h) rfl hc3.src (fun u hu => by simp at hu; rcases hu with rfl | rfl <;> rfl) (by unfold maxLen; omega) (by omega) (by omega) ?_
  intro a7 c7 wX o7 b7
  have iX : Recs2At wX a7 X := by
    have := OwnL.recs2 (xs := gs ++ [(x, y)]) (by rw [flat2_snoc]; exact o7)
    rwa [HX.out] at this
  have nX : a7 = none → c7 = 0 := fun h => by subst h; exact o7.isnil.2
  have jX : Below w2.heap.size w2 wX := heb.trans b7
  clear o7 b7 o2 hc3 hg3 heb hez
  rw [HXl.out]
  clear m0 m1 lM lW
  have b3 := jX
  obtain ⟨w3, hwq⟩ : ∃ x : World, x = wX := ⟨_, rfl⟩
  subst hwq
  have j3 : Below w2.heap.size w2 w3 := by (repeat (first | exact Below.refl _ _ | refine Below.alloc ?_ (by first | omega | (simp; done) | (simp; omega)) _ | refine Below.drew ?_ | refine Below.setCell ?_ (by first | omega | (simp; done) | (simp; omega)) _ | refine Below.trans ?_ (Below.mono (by assumption) (by first | omega | (simp; done) | (simp; omega)))))
  have t3 : Below w.heap.size w w3 := t2.trans (j3.mono t2.size)
  replace hk := hk.below j3
  replace hd := hd.below j3
  replace hc := hc.below j3
  replace hg := hg.below j3
  replace q0 := below_cell j3 q0
  replace q1 := below_cell j3 q1
  replace q2 := below_cell j3 q2
  replace q3 := below_cell j3 q3
  replace lB := Nat.lt_of_lt_of_le lB j3.size
  clear jX
  go_wp2_with fail
  go_at_call 43
  refine (askedLaw_any s wo ak ks ck ad ds cd ac codes cc a7 X c7 E HE _ hk hd lk ld hc (by omega) iX (by omega)).mono ?_
  rintro e w4 ⟨rfl, b4⟩
  have j4 : Below w3.heap.size w3 w4 := by (repeat (first | exact Below.refl _ _ | refine Below.alloc ?_ (by first | omega | (simp; done) | (simp; omega)) _ | refine Below.drew ?_ | refine Below.setCell ?_ (by first | omega | (simp; done) | (simp; omega)) _ | refine Below.trans ?_ (Below.mono (by assumption) (by first | omega | (simp; done) | (simp; omega)))))
  have t4 : Below w.heap.size w w4 := t3.trans (j4.mono t3.size)
  replace hk := hk.below j4
  replace hd := hd.below j4
  replace hc := hc.below j4
  replace hg := hg.below j4
  replace q0 := below_cell j4 q0
  replace q1 := below_cell j4 q1
  replace q2 := below_cell j4 q2
  replace q3 := below_cell j4 q3
  replace lB := Nat.lt_of_lt_of_le lB j4.size
  replace iX := iX.below j4
  go_wp2_with fail
  go_at_call 17
  refine (awake_any _).mono ?_
  rintro e w5 ⟨rfl, b5⟩
  have j5 : Below w4.heap.size w4 w5 := by (repeat (first | exact Below.refl _ _ | refine Below.alloc ?_ (by first | omega | (simp; done) | (simp; omega)) _ | refine Below.drew ?_ | refine Below.setCell ?_ (by first | omega | (simp; done) | (simp; omega)) _ | refine Below.trans ?_ (Below.mono (by assumption) (by first | omega | (simp; done) | (simp; omega)))))
  have t5 : Below w.heap.size w w5 := t4.trans (j5.mono t4.size)
  replace hk := hk.below j5
  replace hd := hd.below j5
  replace hc := hc.below j5
  replace hg := hg.below j5
  replace q0 := below_cell j5 q0
  replace q1 := below_cell j5 q1
  replace q2 := below_cell j5 q2
  replace q3 := below_cell j5 q3
  replace lB := Nat.lt_of_lt_of_le lB j5.size
  replace iX := iX.below j5
  go_wp2_with fail
  go_ret
  exact ⟨rfl, t5⟩

set_option maxRecDepth 100000 in
set_option maxHeartbeats 8000000 in
theorem more_c (s wo : Int) (ak : Option Addr) (ks : List (Int × Int × Int)) (ck : Nat) (ad : Option Addr) (ds : List Int) (cd : Nat) (ac : Option Addr) (codes : List Int) (cc : Nat) (ag : Option Addr) (gs : List (Int × Int)) (cg : Nat) (x y : Int) (A : Nat) (w : World) (hk : Recs3At w ak ks) (hd : IntsAt w ad ds) (nd : ad = none → cd = 0) (hc : IntsAt w ac codes) (nc : ac = none → cc = 0) (hg : Recs2At w ag gs) (ng : ag = none → cg = 0) (hA : A ≤ 255) (hR : readyB s wo ks ds codes = true) (dz : ((codes.length : Int) == 0) = false) (h5 : gs.length ≤ 5) (HE0 : Hid (askErr s wo ks ds codes (gs ++ [(x, y)]) = 0)) (I : Nat) (hI : (A : Int) % (codes.length : Int) = (I : Int)) (hIl : I < codes.length) (n m e9 : Int) (P Q R : List Int)
    (Hn : Hid (fitsN s wo ks ds codes gs = n)) (He : Hid (fitsErr s wo ks ds codes gs = e9)) (Hm0 : Hid (fitsN s wo ks ds codes (gs ++ [(x, y)]) = m)) (Hf0 : Hid (fitsErr s wo ks ds codes (gs ++ [(x, y)]) = 11))
    (HP : Hid (possL s wo ks ds codes gs I = P)) (Hg : Hid (possErr s wo ks ds codes gs I = e9)) (HQ0 : Hid (possL s wo ks ds codes (gs ++ [(x, y)]) I = Q)) (Hh0 : Hid (possErr s wo ks ds codes (gs ++ [(x, y)]) I = 11))
    (Hall : Hid (fitsN s wo ks ds codes [] = s * s * (s - 1))) (Hj : Hid (fitsErr s wo ks ds codes [] = 0)) (HRr : Hid (possL s wo ks ds codes [] I = R)) (Hk : Hid (possErr s wo ks ds codes [] I = 0)) (dR : ((R.length : Int) != s) = false) (lP : P.length ≤ 1000) (lQ : Q.length ≤ 1000) (hm : m = 0) (hQ0 : Q.length = 0) :
    Calls Try.prog 14 #[.agg #[.int .i64 s, .int .i64 wo, .slice ak ks.length ck, .slice ad ds.length cd], .slice ac codes.length cc, .slice ag gs.length cg, .agg #[.int .i64 x, .int .i64 y], .int .u8 A] w fun e w' => e = .returned (.bool true) ∧ Below w.heap.size w w' := by

  obtain ⟨hbk, hl10, hpa⟩ := readyB_ok hR
  obtain ⟨lk5, ld8, s0, s1, _, _, _, k0, dd0, _⟩ := bookErr_ok hbk
  have lk : ks.length ≤ 1000 := by omega
  have ld : ds.length ≤ 1000 := by omega
  have d5 : decide (5 < (gs.length : Int)) = false := by simp; omega
  have HR := Lib.hid hR
  obtain ⟨X, hX⟩ : ∃ X, gs ++ [(x, y)] = X := ⟨_, rfl⟩
  have hXl : gs.length + 1 = X.length := by rw [← hX]; simp
  have HX := Lib.hid hX
  have HXl := Lib.hid hXl
  have lX : X.length ≤ 1000 := by omega
  clear hR hbk hpa hX hXl
  have HE : Hid (askErr s wo ks ds codes X = 0) := Lib.hid (by rw [← HX.out]; exact HE0.out)
  have Hm : Hid (fitsN s wo ks ds codes X = m) := Lib.hid (by rw [← HX.out]; exact Hm0.out)
  have Hf : Hid (fitsErr s wo ks ds codes X = 11) := Lib.hid (by rw [← HX.out]; exact Hf0.out)
  have HQ : Hid (possL s wo ks ds codes X I = Q) := Lib.hid (by rw [← HX.out]; exact HQ0.out)
  have Hh : Hid (possErr s wo ks ds codes X I = 11) := Lib.hid (by rw [← HX.out]; exact Hh0.out)
  clear HE0 Hm0 Hf0 HQ0 Hh0
  have hkn2 : ¬ (codes.length : Int) = 0 := by omega
  have hkn3 : ¬ codes.length = 0 := by omega
  have x0 : IntKind.i64.wrap (A : Int) = A := IntWalk.i64_in _ (by omega)
  have tm1 : (A : Int).tmod (codes.length : Int) = I := by rw [Int.tmod_eq_emod_of_nonneg (by omega), hI]
  have tm2 : A % codes.length = I := by omega
  have tm3 : IntKind.i64.wrap (I : Int) = I := IntWalk.i64_in _ (by omega)
  go_enter Try.func14, Try.ntmps14
  go_wp2_with fail
  obtain ⟨W0, hW0⟩ : ∃ z : World, z = (w.alloc (.cells #[.int .i64 s, .int .i64 wo, .slice ak ks.length ck, .slice ad ds.length cd] 25)).alloc (.cells #[.int .i64 x, .int .i64 y] 85) := ⟨_, rfl⟩
  have t0 : Below w.heap.size w W0 := by rw [hW0]; (repeat (first | exact Below.refl _ _ | refine Below.alloc ?_ (by first | omega | (simp; done) | (simp; omega)) _ | refine Below.drew ?_ | refine Below.setCell ?_ (by first | omega | (simp; done) | (simp; omega)) _ | refine Below.trans ?_ (Below.mono (by assumption) (by first | omega | (simp; done) | (simp; omega)))))
  obtain ⟨q0, q1, q2, q3⟩ : BookAt W0 w.heap.size s wo ak ks.length ck ad ds.length cd := by rw [hW0]; exact (BookAt.new w s wo ak ks.length ck ad ds.length cd 25).below ((Below.refl _ _).alloc (Nat.le_refl _) _)
  have cM : Cells W0 (w.heap.size + 1) #[.int .i64 x, .int .i64 y] 85 := by
    rw [hW0]
    have := Cells.new (w.alloc (.cells #[.int .i64 s, .int .i64 wo, .slice ak ks.length ck, .slice ad ds.length cd] 25)) #[.int .i64 x, .int .i64 y] 85
    rwa [show (w.alloc (.cells #[.int .i64 s, .int .i64 wo, .slice ak ks.length ck, .slice ad ds.length cd] 25)).heap.size = w.heap.size + 1 by simp] at this
  have m0 := cM.cell 0
  have m1 := cM.cell 1
  simp at m0 m1
  rw [← hW0]
  clear hW0 cM
  have lB := cell_lt q0
  have lM := cell_lt m0
  simp only at lB lM
  have b1 := t0
  obtain ⟨w1, hwq⟩ : ∃ x : World, x = W0 := ⟨_, rfl⟩
  subst hwq
  have t1 : Below w.heap.size w w1 := by (repeat (first | exact Below.refl _ _ | refine Below.alloc ?_ (by first | omega | (simp; done) | (simp; omega)) _ | refine Below.drew ?_ | refine Below.setCell ?_ (by first | omega | (simp; done) | (simp; omega)) _ | refine Below.trans ?_ (Below.mono (by assumption) (by first | omega | (simp; done) | (simp; omega)))))
  replace hk := hk.below t1
  replace hd := hd.below t1
  replace hc := hc.below t1
  replace hg := hg.below t1
  go_at_call 33
  refine (ready_eq s wo ak ks ck ad ds cd ac codes cc true HR _ hk hd hc).mono ?_
  rintro e w2 ⟨rfl, b2⟩
  have j2 : Below w1.heap.size w1 w2 := by (repeat (first | exact Below.refl _ _ | refine Below.alloc ?_ (by first | omega | (simp; done) | (simp; omega)) _ | refine Below.drew ?_ | refine Below.setCell ?_ (by first | omega | (simp; done) | (simp; omega)) _ | refine Below.trans ?_ (Below.mono (by assumption) (by first | omega | (simp; done) | (simp; omega)))))
  have t2 : Below w.heap.size w w2 := t1.trans (j2.mono t1.size)
  replace hk := hk.below j2
  replace hd := hd.below j2
  replace hc := hc.below j2
  replace hg := hg.below j2
  replace q0 := below_cell j2 q0
  replace q1 := below_cell j2 q1
  replace q2 := below_cell j2 q2
  replace q3 := below_cell j2 q3
  replace m0 := below_cell j2 m0
  replace m1 := below_cell j2 m1
  replace lB := Nat.lt_of_lt_of_le lB j2.size
  replace lM := Nat.lt_of_lt_of_le lM j2.size
  go_wp2_with fail
  have lW := b2.size
  (refine wp_region_seq 5 [] [5, 6] 195 [false, true, false, true, false] [LitV w2.heap.size 0 #[] 85, OwnV 85 2 w2.heap.size gs.length (flat2 gs), LitV w2.heap.size 1 #[.int .i64 x, .int .i64 y] 85] (by kernel_rfl) (by kernel_rfl) rfl (mono_cons (fun v w w' h hb => h.kept hb) (mono_cons (fun v w w' h hb => h.kept hb) (mono_cons (fun v w w' h hb => h.kept hb) mono_nil))) ?_; simp only [pickOps, List.filterMap_cons, List.filterMap_nil, List.getElem?_toArray, List.getElem?_cons_succ, List.getElem?_cons_zero]; (repeat (refine wpFl_step _ rfl (fun w => (by go_simp; rfl)) ?_)); refine wpFl_nil ?_; simp only [maskOps, dummy, Act.put, List.setIfInBounds_toArray, List.set_cons_zero, List.set_cons_succ, List.take_succ_cons, List.take_zero, List.drop_succ_cons, List.drop_zero]; (repeat (refine wpQB_step (fun K hK => ?_); go_simp; first | (refine hK _ ?_; clear hK K) | (apply Exists.intro; refine ⟨fun ex => ?_, hK _ ?_⟩; (fail); clear hK K))); refine wpQB_nil ?_; simp only [relObl2, under, relEnd, and_true, List.nil_append, List.cons_append])
  refine ⟨⟨fun e => ?_, fun e v1 h1 => ?_, fun e v1 h1 v2 h2 => ?_⟩, fun e => ?_⟩
  · go_simp
    exact ⟨(Below.refl _ _).alloc (Nat.le_refl _) _, e.to.heap.size, rfl, by have := e.size; omega, Cells.new _ _ _⟩
  · obtain ⟨g, rfl, hg9, hc9⟩ := h1 (by kernel_rfl)
    exact gives_app0 el_rguesses e.to w2.heap.size g _ _ rfl rfl hc9 hg9 ag gs.length cg (flat2 gs) rfl (fun h => ⟨hg.none1 h, ng h⟩) (flat2_len gs) (SrcAt.recs2 (hg.below e.below)) (by unfold maxLen; omega) (by omega)
  · go_simp
    exact ⟨(Below.refl _ _).alloc (Nat.le_refl _) _, e.to.heap.size, rfl, by have := e.size; omega, Cells.new _ _ _⟩
  rintro v1 _ v2 ⟨a2, c2, rfl, o2⟩ v3 ⟨g3, rfl, hg3, hc3⟩
  simp only [Act.put, List.setIfInBounds_toArray, List.set_cons_zero, List.set_cons_succ]
  have heb := e.below
  have hez := e.size
  obtain ⟨x2, hx2⟩ : ∃ x : World, x = e.to := ⟨_, rfl⟩
  rw [← hx2] at heb hez hc3 o2 ⊢
  clear hx2
  refine wpList_app el_rguesses rfl _ _ rfl w2.heap.size a2 gs.length c2 _ rfl o2 (some ⟨g3, 0, none⟩) 1 1 _ rfl (fun h => by cases h) rfl hc3.src (fun u hu => by simp at hu; rcases hu with rfl | rfl <;> rfl) (by unfold maxLen; omega) (by omega) (by omega) ?_
  intro a7 c7 wX o7 b7
  have iX : Recs2At wX a7 X := by
    have := OwnL.recs2 (xs := gs ++ [(x, y)]) (by rw [flat2_snoc]; exact o7)
    rwa [HX.out] at this
  have nX : a7 = none → c7 = 0 := fun h => by subst h; exact o7.isnil.2
  have jX : Below w2.heap.size w2 wX := heb.trans b7
  clear o7 b7 o2 hc3 hg3 heb hez
  rw [HXl.out]
  clear m0 m1 lM lW
  have b3 := jX
  obtain ⟨w3, hwq⟩ : ∃ x : World, x = wX := ⟨_, rfl⟩
  subst hwq
  have j3 : Below w2.heap.size w2 w3 := by (repeat (first | exact Below.refl _ _ | refine Below.alloc ?_ (by first | omega | (simp; done) | (simp; omega)) _ | refine Below.drew ?_ | refine Below.setCell ?_ (by first | omega | (simp; done) | (simp; omega)) _ | refine Below.trans ?_ (Below.mono (by assumption) (by first | omega | (simp; done) | (simp; omega)))))
  have t3 : Below w.heap.size w w3 := t2.trans (j3.mono t2.size)
  replace hk := hk.below j3
  replace hd := hd.below j3
  replace hc := hc.below j3
  replace hg := hg.below j3
  replace q0 := below_cell j3 q0
  replace q1 := below_cell j3 q1
  replace q2 := below_cell j3 q2
  replace q3 := below_cell j3 q3
  replace lB := Nat.lt_of_lt_of_le lB j3.size
  clear jX
  go_wp2_with fail
  go_at_call 43
  refine (askedLaw_any s wo ak ks ck ad ds cd ac codes cc a7 X c7 0 HE _ hk hd lk ld hc (by omega) iX (by omega)).mono ?_
  rintro e w4 ⟨rfl, b4⟩
  have j4 : Below w3.heap.size w3 w4 := by (repeat (first | exact Below.refl _ _ | refine Below.alloc ?_ (by first | omega | (simp; done) | (simp; omega)) _ | refine Below.drew ?_ | refine Below.setCell ?_ (by first | omega | (simp; done) | (simp; omega)) _ | refine Below.trans ?_ (Below.mono (by assumption) (by first | omega | (simp; done) | (simp; omega)))))
  have t4 : Below w.heap.size w w4 := t3.trans (j4.mono t3.size)
  replace hk := hk.below j4
  replace hd := hd.below j4
  replace hc := hc.below j4
  replace hg := hg.below j4
  replace q0 := below_cell j4 q0
  replace q1 := below_cell j4 q1
  replace q2 := below_cell j4 q2
  replace q3 := below_cell j4 q3
  replace lB := Nat.lt_of_lt_of_le lB j4.size
  replace iX := iX.below j4
  go_wp2_with fail
  go_at_call 19
  refine (bookConv_at s wo ak ks ck ad ds cd _ hk hd lk ld nd).mono ?_
  rintro e w5 ⟨⟨akA, ckA, adA, cdA, rfl, kA, dA⟩, b5⟩
  have j5 : Below w4.heap.size w4 w5 := by (repeat (first | exact Below.refl _ _ | refine Below.alloc ?_ (by first | omega | (simp; done) | (simp; omega)) _ | refine Below.drew ?_ | refine Below.setCell ?_ (by first | omega | (simp; done) | (simp; omega)) _ | refine Below.trans ?_ (Below.mono (by assumption) (by first | omega | (simp; done) | (simp; omega)))))
  have t5 : Below w.heap.size w w5 := t4.trans (j5.mono t4.size)
  replace hk := hk.below j5
  replace hd := hd.below j5
  replace hc := hc.below j5
  replace hg := hg.below j5
  replace q0 := below_cell j5 q0
  replace q1 := below_cell j5 q1
  replace q2 := below_cell j5 q2
  replace q3 := below_cell j5 q3
  replace lB := Nat.lt_of_lt_of_le lB j5.size
  replace iX := iX.below j5
  go_wp2_with fail
  go_at_call 21
  refine (list_at ac codes cc _ hc (by omega) nc).mono ?_
  rintro e w6 ⟨⟨aC, cC, rfl, iC, _⟩, b6⟩
  have j6 : Below w5.heap.size w5 w6 := by (repeat (first | exact Below.refl _ _ | refine Below.alloc ?_ (by first | omega | (simp; done) | (simp; omega)) _ | refine Below.drew ?_ | refine Below.setCell ?_ (by first | omega | (simp; done) | (simp; omega)) _ | refine Below.trans ?_ (Below.mono (by assumption) (by first | omega | (simp; done) | (simp; omega)))))
  have t6 : Below w.heap.size w w6 := t5.trans (j6.mono t5.size)
  replace hk := hk.below j6
  replace hd := hd.below j6
  replace hc := hc.below j6
  replace hg := hg.below j6
  replace q0 := below_cell j6 q0
  replace q1 := below_cell j6 q1
  replace q2 := below_cell j6 q2
  replace q3 := below_cell j6 q3
  replace lB := Nat.lt_of_lt_of_le lB j6.size
  replace iX := iX.below j6
  replace kA := kA.below j6
  replace dA := dA.below j6
  go_wp2_with fail
  go_at_call 41
  refine (guessesConv_at ag gs cg _ hg (by omega)).mono ?_
  rintro e w7 ⟨⟨aG, cG, rfl, iG, _⟩, b7⟩
  have j7 : Below w6.heap.size w6 w7 := by (repeat (first | exact Below.refl _ _ | refine Below.alloc ?_ (by first | omega | (simp; done) | (simp; omega)) _ | refine Below.drew ?_ | refine Below.setCell ?_ (by first | omega | (simp; done) | (simp; omega)) _ | refine Below.trans ?_ (Below.mono (by assumption) (by first | omega | (simp; done) | (simp; omega)))))
  have t7 : Below w.heap.size w w7 := t6.trans (j7.mono t6.size)
  replace hk := hk.below j7
  replace hd := hd.below j7
  replace hc := hc.below j7
  replace hg := hg.below j7
  replace q0 := below_cell j7 q0
  replace q1 := below_cell j7 q1
  replace q2 := below_cell j7 q2
  replace q3 := below_cell j7 q3
  replace lB := Nat.lt_of_lt_of_le lB j7.size
  replace iX := iX.below j7
  replace kA := kA.below j7
  replace dA := dA.below j7
  replace iC := iC.below j7
  go_wp2_with fail
  go_at_call 40
  refine (fits_eq s wo akA ks ckA adA ds cdA aC codes cC aG gs cG n e9 Hn He _ kA dA lk ld iC (by omega) iG (by omega)).mono ?_
  rintro e w8 ⟨rfl, b8⟩
  have j8 : Below w7.heap.size w7 w8 := by (repeat (first | exact Below.refl _ _ | refine Below.alloc ?_ (by first | omega | (simp; done) | (simp; omega)) _ | refine Below.drew ?_ | refine Below.setCell ?_ (by first | omega | (simp; done) | (simp; omega)) _ | refine Below.trans ?_ (Below.mono (by assumption) (by first | omega | (simp; done) | (simp; omega)))))
  have t8 : Below w.heap.size w w8 := t7.trans (j8.mono t7.size)
  replace hk := hk.below j8
  replace hd := hd.below j8
  replace hc := hc.below j8
  replace hg := hg.below j8
  replace q0 := below_cell j8 q0
  replace q1 := below_cell j8 q1
  replace q2 := below_cell j8 q2
  replace q3 := below_cell j8 q3
  replace lB := Nat.lt_of_lt_of_le lB j8.size
  replace iX := iX.below j8
  replace kA := kA.below j8
  replace dA := dA.below j8
  replace iC := iC.below j8
  replace iG := iG.below j8
  clear kA dA iC iG
  go_wp2_with fail
  go_at_call 19
  refine (bookConv_at s wo ak ks ck ad ds cd _ hk hd lk ld nd).mono ?_
  rintro e w9 ⟨⟨akA, ckA, adA, cdA, rfl, kA, dA⟩, b9⟩
  have j9 : Below w8.heap.size w8 w9 := by (repeat (first | exact Below.refl _ _ | refine Below.alloc ?_ (by first | omega | (simp; done) | (simp; omega)) _ | refine Below.drew ?_ | refine Below.setCell ?_ (by first | omega | (simp; done) | (simp; omega)) _ | refine Below.trans ?_ (Below.mono (by assumption) (by first | omega | (simp; done) | (simp; omega)))))
  have t9 : Below w.heap.size w w9 := t8.trans (j9.mono t8.size)
  replace hk := hk.below j9
  replace hd := hd.below j9
  replace hc := hc.below j9
  replace hg := hg.below j9
  replace q0 := below_cell j9 q0
  replace q1 := below_cell j9 q1
  replace q2 := below_cell j9 q2
  replace q3 := below_cell j9 q3
  replace lB := Nat.lt_of_lt_of_le lB j9.size
  replace iX := iX.below j9
  go_wp2_with fail
  go_at_call 21
  refine (list_at ac codes cc _ hc (by omega) nc).mono ?_
  rintro e w10 ⟨⟨aC, cC, rfl, iC, _⟩, b10⟩
  have j10 : Below w9.heap.size w9 w10 := by (repeat (first | exact Below.refl _ _ | refine Below.alloc ?_ (by first | omega | (simp; done) | (simp; omega)) _ | refine Below.drew ?_ | refine Below.setCell ?_ (by first | omega | (simp; done) | (simp; omega)) _ | refine Below.trans ?_ (Below.mono (by assumption) (by first | omega | (simp; done) | (simp; omega)))))
  have t10 : Below w.heap.size w w10 := t9.trans (j10.mono t9.size)
  replace hk := hk.below j10
  replace hd := hd.below j10
  replace hc := hc.below j10
  replace hg := hg.below j10
  replace q0 := below_cell j10 q0
  replace q1 := below_cell j10 q1
  replace q2 := below_cell j10 q2
  replace q3 := below_cell j10 q3
  replace lB := Nat.lt_of_lt_of_le lB j10.size
  replace iX := iX.below j10
  replace kA := kA.below j10
  replace dA := dA.below j10
  go_wp2_with fail
  go_at_call 41
  refine (guessesConv_at a7 X c7 _ iX (by omega)).mono ?_
  rintro e w11 ⟨⟨aG, cG, rfl, iG, _⟩, b11⟩
  have j11 : Below w10.heap.size w10 w11 := by (repeat (first | exact Below.refl _ _ | refine Below.alloc ?_ (by first | omega | (simp; done) | (simp; omega)) _ | refine Below.drew ?_ | refine Below.setCell ?_ (by first | omega | (simp; done) | (simp; omega)) _ | refine Below.trans ?_ (Below.mono (by assumption) (by first | omega | (simp; done) | (simp; omega)))))
  have t11 : Below w.heap.size w w11 := t10.trans (j11.mono t10.size)
  replace hk := hk.below j11
  replace hd := hd.below j11
  replace hc := hc.below j11
  replace hg := hg.below j11
  replace q0 := below_cell j11 q0
  replace q1 := below_cell j11 q1
  replace q2 := below_cell j11 q2
  replace q3 := below_cell j11 q3
  replace lB := Nat.lt_of_lt_of_le lB j11.size
  replace iX := iX.below j11
  replace kA := kA.below j11
  replace dA := dA.below j11
  replace iC := iC.below j11
  go_wp2_with fail
  go_at_call 40
  refine (fits_eq s wo akA ks ckA adA ds cdA aC codes cC aG X cG m 11 Hm Hf _ kA dA lk ld iC (by omega) iG (by omega)).mono ?_
  rintro e w12 ⟨rfl, b12⟩
  have j12 : Below w11.heap.size w11 w12 := by (repeat (first | exact Below.refl _ _ | refine Below.alloc ?_ (by first | omega | (simp; done) | (simp; omega)) _ | refine Below.drew ?_ | refine Below.setCell ?_ (by first | omega | (simp; done) | (simp; omega)) _ | refine Below.trans ?_ (Below.mono (by assumption) (by first | omega | (simp; done) | (simp; omega)))))
  have t12 : Below w.heap.size w w12 := t11.trans (j12.mono t11.size)
  replace hk := hk.below j12
  replace hd := hd.below j12
  replace hc := hc.below j12
  replace hg := hg.below j12
  replace q0 := below_cell j12 q0
  replace q1 := below_cell j12 q1
  replace q2 := below_cell j12 q2
  replace q3 := below_cell j12 q3
  replace lB := Nat.lt_of_lt_of_le lB j12.size
  replace iX := iX.below j12
  replace kA := kA.below j12
  replace dA := dA.below j12
  replace iC := iC.below j12
  replace iG := iG.below j12
  clear kA dA iC iG
  go_wp2_with fail
  go_at_call 19
  refine (bookConv_at s wo ak ks ck ad ds cd _ hk hd lk ld nd).mono ?_
  rintro e w13 ⟨⟨akA, ckA, adA, cdA, rfl, kA, dA⟩, b13⟩
  have j13 : Below w12.heap.size w12 w13 := by (repeat (first | exact Below.refl _ _ | refine Below.alloc ?_ (by first | omega | (simp; done) | (simp; omega)) _ | refine Below.drew ?_ | refine Below.setCell ?_ (by first | omega | (simp; done) | (simp; omega)) _ | refine Below.trans ?_ (Below.mono (by assumption) (by first | omega | (simp; done) | (simp; omega)))))
  have t13 : Below w.heap.size w w13 := t12.trans (j13.mono t12.size)
  replace hk := hk.below j13
  replace hd := hd.below j13
  replace hc := hc.below j13
  replace hg := hg.below j13
  replace q0 := below_cell j13 q0
  replace q1 := below_cell j13 q1
  replace q2 := below_cell j13 q2
  replace q3 := below_cell j13 q3
  replace lB := Nat.lt_of_lt_of_le lB j13.size
  replace iX := iX.below j13
  go_wp2_with fail
  go_at_call 21
  refine (list_at ac codes cc _ hc (by omega) nc).mono ?_
  rintro e w14 ⟨⟨aC, cC, rfl, iC, _⟩, b14⟩
  have j14 : Below w13.heap.size w13 w14 := by (repeat (first | exact Below.refl _ _ | refine Below.alloc ?_ (by first | omega | (simp; done) | (simp; omega)) _ | refine Below.drew ?_ | refine Below.setCell ?_ (by first | omega | (simp; done) | (simp; omega)) _ | refine Below.trans ?_ (Below.mono (by assumption) (by first | omega | (simp; done) | (simp; omega)))))
  have t14 : Below w.heap.size w w14 := t13.trans (j14.mono t13.size)
  replace hk := hk.below j14
  replace hd := hd.below j14
  replace hc := hc.below j14
  replace hg := hg.below j14
  replace q0 := below_cell j14 q0
  replace q1 := below_cell j14 q1
  replace q2 := below_cell j14 q2
  replace q3 := below_cell j14 q3
  replace lB := Nat.lt_of_lt_of_le lB j14.size
  replace iX := iX.below j14
  replace kA := kA.below j14
  replace dA := dA.below j14
  go_wp2_with fail
  go_at_call 41
  refine (guessesConv_at ag gs cg _ hg (by omega)).mono ?_
  rintro e w15 ⟨⟨aG, cG, rfl, iG, _⟩, b15⟩
  have j15 : Below w14.heap.size w14 w15 := by (repeat (first | exact Below.refl _ _ | refine Below.alloc ?_ (by first | omega | (simp; done) | (simp; omega)) _ | refine Below.drew ?_ | refine Below.setCell ?_ (by first | omega | (simp; done) | (simp; omega)) _ | refine Below.trans ?_ (Below.mono (by assumption) (by first | omega | (simp; done) | (simp; omega)))))
  have t15 : Below w.heap.size w w15 := t14.trans (j15.mono t14.size)
  replace hk := hk.below j15
  replace hd := hd.below j15
  replace hc := hc.below j15
  replace hg := hg.below j15
  replace q0 := below_cell j15 q0
  replace q1 := below_cell j15 q1
  replace q2 := below_cell j15 q2
  replace q3 := below_cell j15 q3
  replace lB := Nat.lt_of_lt_of_le lB j15.size
  replace iX := iX.below j15
  replace kA := kA.below j15
  replace dA := dA.below j15
  replace iC := iC.below j15
  go_wp2_with fail
  go_at_call 42
  refine (poss_at s wo akA ks ckA adA ds cdA aC codes cC aG gs cG I P e9 HP Hg _ kA dA lk ld iC (by omega) iG (by omega)).mono ?_
  rintro e w16 ⟨⟨aP, cP, rfl, iP⟩, b16⟩
  have j16 : Below w15.heap.size w15 w16 := by (repeat (first | exact Below.refl _ _ | refine Below.alloc ?_ (by first | omega | (simp; done) | (simp; omega)) _ | refine Below.drew ?_ | refine Below.setCell ?_ (by first | omega | (simp; done) | (simp; omega)) _ | refine Below.trans ?_ (Below.mono (by assumption) (by first | omega | (simp; done) | (simp; omega)))))
  have t16 : Below w.heap.size w w16 := t15.trans (j16.mono t15.size)
  replace hk := hk.below j16
  replace hd := hd.below j16
  replace hc := hc.below j16
  replace hg := hg.below j16
  replace q0 := below_cell j16 q0
  replace q1 := below_cell j16 q1
  replace q2 := below_cell j16 q2
  replace q3 := below_cell j16 q3
  replace lB := Nat.lt_of_lt_of_le lB j16.size
  replace iX := iX.below j16
  replace kA := kA.below j16
  replace dA := dA.below j16
  replace iC := iC.below j16
  replace iG := iG.below j16
  clear kA dA iC iG
  go_wp2_with fail
  go_at_call 19
  refine (bookConv_at s wo ak ks ck ad ds cd _ hk hd lk ld nd).mono ?_
  rintro e w17 ⟨⟨akA, ckA, adA, cdA, rfl, kA, dA⟩, b17⟩
  have j17 : Below w16.heap.size w16 w17 := by (repeat (first | exact Below.refl _ _ | refine Below.alloc ?_ (by first | omega | (simp; done) | (simp; omega)) _ | refine Below.drew ?_ | refine Below.setCell ?_ (by first | omega | (simp; done) | (simp; omega)) _ | refine Below.trans ?_ (Below.mono (by assumption) (by first | omega | (simp; done) | (simp; omega)))))
  have t17 : Below w.heap.size w w17 := t16.trans (j17.mono t16.size)
  replace hk := hk.below j17
  replace hd := hd.below j17
  replace hc := hc.below j17
  replace hg := hg.below j17
  replace q0 := below_cell j17 q0
  replace q1 := below_cell j17 q1
  replace q2 := below_cell j17 q2
  replace q3 := below_cell j17 q3
  replace lB := Nat.lt_of_lt_of_le lB j17.size
  replace iX := iX.below j17
  replace iP := iP.below j17
  go_wp2_with fail
  go_at_call 21
  refine (list_at ac codes cc _ hc (by omega) nc).mono ?_
  rintro e w18 ⟨⟨aC, cC, rfl, iC, _⟩, b18⟩
  have j18 : Below w17.heap.size w17 w18 := by (repeat (first | exact Below.refl _ _ | refine Below.alloc ?_ (by first | omega | (simp; done) | (simp; omega)) _ | refine Below.drew ?_ | refine Below.setCell ?_ (by first | omega | (simp; done) | (simp; omega)) _ | refine Below.trans ?_ (Below.mono (by assumption) (by first | omega | (simp; done) | (simp; omega)))))
  have t18 : Below w.heap.size w w18 := t17.trans (j18.mono t17.size)
  replace hk := hk.below j18
  replace hd := hd.below j18
  replace hc := hc.below j18
  replace hg := hg.below j18
  replace q0 := below_cell j18 q0
  replace q1 := below_cell j18 q1
  replace q2 := below_cell j18 q2
  replace q3 := below_cell j18 q3
  replace lB := Nat.lt_of_lt_of_le lB j18.size
  replace iX := iX.below j18
  replace iP := iP.below j18
  replace kA := kA.below j18
  replace dA := dA.below j18
  go_wp2_with fail
  go_at_call 41
  refine (guessesConv_at a7 X c7 _ iX (by omega)).mono ?_
  rintro e w19 ⟨⟨aG, cG, rfl, iG, _⟩, b19⟩
  have j19 : Below w18.heap.size w18 w19 := by (repeat (first | exact Below.refl _ _ | refine Below.alloc ?_ (by first | omega | (simp; done) | (simp; omega)) _ | refine Below.drew ?_ | refine Below.setCell ?_ (by first | omega | (simp; done) | (simp; omega)) _ | refine Below.trans ?_ (Below.mono (by assumption) (by first | omega | (simp; done) | (simp; omega)))))
  have t19 : Below w.heap.size w w19 := t18.trans (j19.mono t18.size)
  replace hk := hk.below j19
  replace hd := hd.below j19
  replace hc := hc.below j19
  replace hg := hg.below j19
  replace q0 := below_cell j19 q0
  replace q1 := below_cell j19 q1
  replace q2 := below_cell j19 q2
  replace q3 := below_cell j19 q3
  replace lB := Nat.lt_of_lt_of_le lB j19.size
  replace iX := iX.below j19
  replace iP := iP.below j19
  replace kA := kA.below j19
  replace dA := dA.below j19
  replace iC := iC.below j19
  go_wp2_with fail
  go_at_call 42
  refine (poss_at s wo akA ks ckA adA ds cdA aC codes cC aG X cG I Q 11 HQ Hh _ kA dA lk ld iC (by omega) iG (by omega)).mono ?_
  rintro e w20 ⟨⟨aQ, cQ, rfl, iQ⟩, b20⟩
  have j20 : Below w19.heap.size w19 w20 := by (repeat (first | exact Below.refl _ _ | refine Below.alloc ?_ (by first | omega | (simp; done) | (simp; omega)) _ | refine Below.drew ?_ | refine Below.setCell ?_ (by first | omega | (simp; done) | (simp; omega)) _ | refine Below.trans ?_ (Below.mono (by assumption) (by first | omega | (simp; done) | (simp; omega)))))
  have t20 : Below w.heap.size w w20 := t19.trans (j20.mono t19.size)
  replace hk := hk.below j20
  replace hd := hd.below j20
  replace hc := hc.below j20
  replace hg := hg.below j20
  replace q0 := below_cell j20 q0
  replace q1 := below_cell j20 q1
  replace q2 := below_cell j20 q2
  replace q3 := below_cell j20 q3
  replace lB := Nat.lt_of_lt_of_le lB j20.size
  replace iX := iX.below j20
  replace iP := iP.below j20
  replace kA := kA.below j20
  replace dA := dA.below j20
  replace iC := iC.below j20
  replace iG := iG.below j20
  clear kA dA iC iG
  go_wp2_with fail
  go_at_call 19
  refine (bookConv_at s wo ak ks ck ad ds cd _ hk hd lk ld nd).mono ?_
  rintro e w21 ⟨⟨akA, ckA, adA, cdA, rfl, kA, dA⟩, b21⟩
  have j21 : Below w20.heap.size w20 w21 := by (repeat (first | exact Below.refl _ _ | refine Below.alloc ?_ (by first | omega | (simp; done) | (simp; omega)) _ | refine Below.drew ?_ | refine Below.setCell ?_ (by first | omega | (simp; done) | (simp; omega)) _ | refine Below.trans ?_ (Below.mono (by assumption) (by first | omega | (simp; done) | (simp; omega)))))
  have t21 : Below w.heap.size w w21 := t20.trans (j21.mono t20.size)
  replace hk := hk.below j21
  replace hd := hd.below j21
  replace hc := hc.below j21
  replace hg := hg.below j21
  replace q0 := below_cell j21 q0
  replace q1 := below_cell j21 q1
  replace q2 := below_cell j21 q2
  replace q3 := below_cell j21 q3
  replace lB := Nat.lt_of_lt_of_le lB j21.size
  replace iX := iX.below j21
  replace iP := iP.below j21
  replace iQ := iQ.below j21
  go_wp2_with fail
  go_at_call 21
  refine (list_at ac codes cc _ hc (by omega) nc).mono ?_
  rintro e w22 ⟨⟨aC, cC, rfl, iC, _⟩, b22⟩
  have j22 : Below w21.heap.size w21 w22 := by (repeat (first | exact Below.refl _ _ | refine Below.alloc ?_ (by first | omega | (simp; done) | (simp; omega)) _ | refine Below.drew ?_ | refine Below.setCell ?_ (by first | omega | (simp; done) | (simp; omega)) _ | refine Below.trans ?_ (Below.mono (by assumption) (by first | omega | (simp; done) | (simp; omega)))))
  have t22 : Below w.heap.size w w22 := t21.trans (j22.mono t21.size)
  replace hk := hk.below j22
  replace hd := hd.below j22
  replace hc := hc.below j22
  replace hg := hg.below j22
  replace q0 := below_cell j22 q0
  replace q1 := below_cell j22 q1
  replace q2 := below_cell j22 q2
  replace q3 := below_cell j22 q3
  replace lB := Nat.lt_of_lt_of_le lB j22.size
  replace iX := iX.below j22
  replace iP := iP.below j22
  replace iQ := iQ.below j22
  replace kA := kA.below j22
  replace dA := dA.below j22
  go_wp2_with fail
  go_at_call 40
  refine (fits_eq s wo akA ks ckA adA ds cdA aC codes cC none [] 0 (s * s * (s - 1)) 0 Hall Hj _ kA dA lk ld iC (by omega) (Recs2At.nil0 _) (by simp)).mono ?_
  rintro e w23 ⟨rfl, b23⟩
  have j23 : Below w22.heap.size w22 w23 := by (repeat (first | exact Below.refl _ _ | refine Below.alloc ?_ (by first | omega | (simp; done) | (simp; omega)) _ | refine Below.drew ?_ | refine Below.setCell ?_ (by first | omega | (simp; done) | (simp; omega)) _ | refine Below.trans ?_ (Below.mono (by assumption) (by first | omega | (simp; done) | (simp; omega)))))
  have t23 : Below w.heap.size w w23 := t22.trans (j23.mono t22.size)
  replace hk := hk.below j23
  replace hd := hd.below j23
  replace hc := hc.below j23
  replace hg := hg.below j23
  replace q0 := below_cell j23 q0
  replace q1 := below_cell j23 q1
  replace q2 := below_cell j23 q2
  replace q3 := below_cell j23 q3
  replace lB := Nat.lt_of_lt_of_le lB j23.size
  replace iX := iX.below j23
  replace iP := iP.below j23
  replace iQ := iQ.below j23
  replace kA := kA.below j23
  replace dA := dA.below j23
  replace iC := iC.below j23
  clear kA dA iC
  go_wp2_with fail
  go_at_call 19
  refine (bookConv_at s wo ak ks ck ad ds cd _ hk hd lk ld nd).mono ?_
  rintro e w24 ⟨⟨akA, ckA, adA, cdA, rfl, kA, dA⟩, b24⟩
  have j24 : Below w23.heap.size w23 w24 := by (repeat (first | exact Below.refl _ _ | refine Below.alloc ?_ (by first | omega | (simp; done) | (simp; omega)) _ | refine Below.drew ?_ | refine Below.setCell ?_ (by first | omega | (simp; done) | (simp; omega)) _ | refine Below.trans ?_ (Below.mono (by assumption) (by first | omega | (simp; done) | (simp; omega)))))
  have t24 : Below w.heap.size w w24 := t23.trans (j24.mono t23.size)
  replace hk := hk.below j24
  replace hd := hd.below j24
  replace hc := hc.below j24
  replace hg := hg.below j24
  replace q0 := below_cell j24 q0
  replace q1 := below_cell j24 q1
  replace q2 := below_cell j24 q2
  replace q3 := below_cell j24 q3
  replace lB := Nat.lt_of_lt_of_le lB j24.size
  replace iX := iX.below j24
  replace iP := iP.below j24
  replace iQ := iQ.below j24
  go_wp2_with fail
  go_at_call 21
  refine (list_at ac codes cc _ hc (by omega) nc).mono ?_
  rintro e w25 ⟨⟨aC, cC, rfl, iC, _⟩, b25⟩
  have j25 : Below w24.heap.size w24 w25 := by (repeat (first | exact Below.refl _ _ | refine Below.alloc ?_ (by first | omega | (simp; done) | (simp; omega)) _ | refine Below.drew ?_ | refine Below.setCell ?_ (by first | omega | (simp; done) | (simp; omega)) _ | refine Below.trans ?_ (Below.mono (by assumption) (by first | omega | (simp; done) | (simp; omega)))))
  have t25 : Below w.heap.size w w25 := t24.trans (j25.mono t24.size)
  replace hk := hk.below j25
  replace hd := hd.below j25
  replace hc := hc.below j25
  replace hg := hg.below j25
  replace q0 := below_cell j25 q0
  replace q1 := below_cell j25 q1
  replace q2 := below_cell j25 q2
  replace q3 := below_cell j25 q3
  replace lB := Nat.lt_of_lt_of_le lB j25.size
  replace iX := iX.below j25
  replace iP := iP.below j25
  replace iQ := iQ.below j25
  replace kA := kA.below j25
  replace dA := dA.below j25
  go_wp2_with fail
  go_at_call 42
  refine (poss_at s wo akA ks ckA adA ds cdA aC codes cC none [] 0 I R 0 HRr Hk _ kA dA lk ld iC (by omega) (Recs2At.nil0 _) (by simp)).mono ?_
  rintro e w26 ⟨⟨aR, cR, rfl, _⟩, b26⟩
  have j26 : Below w25.heap.size w25 w26 := by (repeat (first | exact Below.refl _ _ | refine Below.alloc ?_ (by first | omega | (simp; done) | (simp; omega)) _ | refine Below.drew ?_ | refine Below.setCell ?_ (by first | omega | (simp; done) | (simp; omega)) _ | refine Below.trans ?_ (Below.mono (by assumption) (by first | omega | (simp; done) | (simp; omega)))))
  have t26 : Below w.heap.size w w26 := t25.trans (j26.mono t25.size)
  replace hk := hk.below j26
  replace hd := hd.below j26
  replace hc := hc.below j26
  replace hg := hg.below j26
  replace q0 := below_cell j26 q0
  replace q1 := below_cell j26 q1
  replace q2 := below_cell j26 q2
  replace q3 := below_cell j26 q3
  replace lB := Nat.lt_of_lt_of_le lB j26.size
  replace iX := iX.below j26
  replace iP := iP.below j26
  replace iQ := iQ.below j26
  replace kA := kA.below j26
  replace dA := dA.below j26
  replace iC := iC.below j26
  clear kA dA iC
  have ss : s * s ≤ 1681 := Int.le_trans (Int.mul_le_mul_of_nonneg_left s1 (by omega)) (by omega)
  have ss0 : 0 ≤ s * s := Int.mul_nonneg (by omega) (by omega)
  have sss0 : 0 ≤ s * s * (s - 1) := Int.mul_nonneg ss0 (by omega)
  have sss : s * s * (s - 1) ≤ 67240 := Int.le_trans (Int.mul_le_mul ss (show s - 1 ≤ 40 by omega) (by omega) (by omega)) (by omega)
  have v1 : IntKind.i64.wrap (s * s) = s * s := IntWalk.i64_in _ (by omega)
  have v2 : IntKind.i64.wrap (s - 1) = s - 1 := IntWalk.i64_in _ (by omega)
  have v3 : IntKind.i64.wrap (s * s * (s - 1)) = s * s * (s - 1) := IntWalk.i64_in _ (by omega)
  clear hkn2 hkn3 x0 tm1 tm2 tm3
  subst hm
  go_wp2_with fail
  go_at_call 17
  refine (awake_any _).mono ?_
  rintro e w27 ⟨rfl, b27⟩
  have j27 : Below w26.heap.size w26 w27 := by (repeat (first | exact Below.refl _ _ | refine Below.alloc ?_ (by first | omega | (simp; done) | (simp; omega)) _ | refine Below.drew ?_ | refine Below.setCell ?_ (by first | omega | (simp; done) | (simp; omega)) _ | refine Below.trans ?_ (Below.mono (by assumption) (by first | omega | (simp; done) | (simp; omega)))))
  have t27 : Below w.heap.size w w27 := t26.trans (j27.mono t26.size)
  replace hk := hk.below j27
  replace hd := hd.below j27
  replace hc := hc.below j27
  replace hg := hg.below j27
  replace q0 := below_cell j27 q0
  replace q1 := below_cell j27 q1
  replace q2 := below_cell j27 q2
  replace q3 := below_cell j27 q3
  replace lB := Nat.lt_of_lt_of_le lB j27.size
  replace iX := iX.below j27
  replace iP := iP.below j27
  replace iQ := iQ.below j27
  go_wp2_with fail
  go_ret
  exact ⟨rfl, t27⟩

set_option maxRecDepth 100000 in
set_option maxHeartbeats 8000000 in
theorem more_d (s wo : Int) (ak : Option Addr) (ks : List (Int × Int × Int)) (ck : Nat) (ad : Option Addr) (ds : List Int) (cd : Nat) (ac : Option Addr) (codes : List Int) (cc : Nat) (ag : Option Addr) (gs : List (Int × Int)) (cg : Nat) (x y : Int) (A : Nat) (w : World) (hk : Recs3At w ak ks) (hd : IntsAt w ad ds) (nd : ad = none → cd = 0) (hc : IntsAt w ac codes) (nc : ac = none → cc = 0) (hg : Recs2At w ag gs) (ng : ag = none → cg = 0) (hA : A ≤ 255) (hR : readyB s wo ks ds codes = true) (dz : ((codes.length : Int) == 0) = false) (h5 : gs.length ≤ 5) (HE0 : Hid (askErr s wo ks ds codes (gs ++ [(x, y)]) = 0)) (I : Nat) (hI : (A : Int) % (codes.length : Int) = (I : Int)) (hIl : I < codes.length) (n m e9 : Int) (P Q R : List Int)
    (Hn : Hid (fitsN s wo ks ds codes gs = n)) (He : Hid (fitsErr s wo ks ds codes gs = e9)) (Hm0 : Hid (fitsN s wo ks ds codes (gs ++ [(x, y)]) = m)) (Hf0 : Hid (fitsErr s wo ks ds codes (gs ++ [(x, y)]) = 0))
    (HP : Hid (possL s wo ks ds codes gs I = P)) (Hg : Hid (possErr s wo ks ds codes gs I = e9)) (HQ0 : Hid (possL s wo ks ds codes (gs ++ [(x, y)]) I = Q)) (Hh0 : Hid (possErr s wo ks ds codes (gs ++ [(x, y)]) I = 0))
    (Hall : Hid (fitsN s wo ks ds codes [] = s * s * (s - 1))) (Hj : Hid (fitsErr s wo ks ds codes [] = 0)) (HRr : Hid (possL s wo ks ds codes [] I = R)) (Hk : Hid (possErr s wo ks ds codes [] I = 0)) (dR : ((R.length : Int) != s) = false) (lP : P.length ≤ 1000) (lQ : Q.length ≤ 1000) (he : e9 = 0) (hmn : decide (n < m) = false) (hna : decide (s * s * (s - 1) < n) = false) (HPQ : Hid (∀ v ∈ Q, P.any (· == v) = true)) :
    Calls Try.prog 14 #[.agg #[.int .i64 s, .int .i64 wo, .slice ak ks.length ck, .slice ad ds.length cd], .slice ac codes.length cc, .slice ag gs.length cg, .agg #[.int .i64 x, .int .i64 y], .int .u8 A] w fun e w' => e = .returned (.bool true) ∧ Below w.heap.size w w' := by

  subst he
  obtain ⟨hbk, hl10, hpa⟩ := readyB_ok hR
  obtain ⟨lk5, ld8, s0, s1, _, _, _, k0, dd0, _⟩ := bookErr_ok hbk
  have lk : ks.length ≤ 1000 := by omega
  have ld : ds.length ≤ 1000 := by omega
  have d5 : decide (5 < (gs.length : Int)) = false := by simp; omega
  have HR := Lib.hid hR
  obtain ⟨X, hX⟩ : ∃ X, gs ++ [(x, y)] = X := ⟨_, rfl⟩
  have hXl : gs.length + 1 = X.length := by rw [← hX]; simp
  have HX := Lib.hid hX
  have HXl := Lib.hid hXl
  have lX : X.length ≤ 1000 := by omega
  clear hR hbk hpa hX hXl
  have HE : Hid (askErr s wo ks ds codes X = 0) := Lib.hid (by rw [← HX.out]; exact HE0.out)
  have Hm : Hid (fitsN s wo ks ds codes X = m) := Lib.hid (by rw [← HX.out]; exact Hm0.out)
  have Hf : Hid (fitsErr s wo ks ds codes X = 0) := Lib.hid (by rw [← HX.out]; exact Hf0.out)
  have HQ : Hid (possL s wo ks ds codes X I = Q) := Lib.hid (by rw [← HX.out]; exact HQ0.out)
  have Hh : Hid (possErr s wo ks ds codes X I = 0) := Lib.hid (by rw [← HX.out]; exact Hh0.out)
  clear HE0 Hm0 Hf0 HQ0 Hh0
  have hkn2 : ¬ (codes.length : Int) = 0 := by omega
  have hkn3 : ¬ codes.length = 0 := by omega
  have x0 : IntKind.i64.wrap (A : Int) = A := IntWalk.i64_in _ (by omega)
  have tm1 : (A : Int).tmod (codes.length : Int) = I := by rw [Int.tmod_eq_emod_of_nonneg (by omega), hI]
  have tm2 : A % codes.length = I := by omega
  have tm3 : IntKind.i64.wrap (I : Int) = I := IntWalk.i64_in _ (by omega)
  go_enter Try.func14, Try.ntmps14
  go_wp2_with fail
  obtain ⟨W0, hW0⟩ : ∃ z : World, z = (w.alloc (.cells #[.int .i64 s, .int .i64 wo, .slice ak ks.length ck, .slice ad ds.length cd] 25)).alloc (.cells #[.int .i64 x, .int .i64 y] 85) := ⟨_, rfl⟩
  have t0 : Below w.heap.size w W0 := by rw [hW0]; (repeat (first | exact Below.refl _ _ | refine Below.alloc ?_ (by first | omega | (simp; done) | (simp; omega)) _ | refine Below.drew ?_ | refine Below.setCell ?_ (by first | omega | (simp; done) | (simp; omega)) _ | refine Below.trans ?_ (Below.mono (by assumption) (by first | omega | (simp; done) | (simp; omega)))))
  obtain ⟨q0, q1, q2, q3⟩ : BookAt W0 w.heap.size s wo ak ks.length ck ad ds.length cd := by rw [hW0]; exact (BookAt.new w s wo ak ks.length ck ad ds.length cd 25).below ((Below.refl _ _).alloc (Nat.le_refl _) _)
  have cM : Cells W0 (w.heap.size + 1) #[.int .i64 x, .int .i64 y] 85 := by
    rw [hW0]
    have := Cells.new (w.alloc (.cells #[.int .i64 s, .int .i64 wo, .slice ak ks.length ck, .slice ad ds.length cd] 25)) #[.int .i64 x, .int .i64 y] 85
    rwa [show (w.alloc (.cells #[.int .i64 s, .int .i64 wo, .slice ak ks.length ck, .slice ad ds.length cd] 25)).heap.size = w.heap.size + 1 by simp] at this
  have m0 := cM.cell 0
  have m1 := cM.cell 1
  simp at m0 m1
  rw [← hW0]
  clear hW0 cM
  have lB := cell_lt q0
  have lM := cell_lt m0
  simp only at lB lM
  have b1 := t0
  obtain ⟨w1, hwq⟩ : ∃ x : World, x = W0 := ⟨_, rfl⟩
  subst hwq
  have t1 : Below w.heap.size w w1 := by (repeat (first | exact Below.refl _ _ | refine Below.alloc ?_ (by first | omega | (simp; done) | (simp; omega)) _ | refine Below.drew ?_ | refine Below.setCell ?_ (by first | omega | (simp; done) | (simp; omega)) _ | refine Below.trans ?_ (Below.mono (by assumption) (by first | omega | (simp; done) | (simp; omega)))))
  replace hk := hk.below t1
  replace hd := hd.below t1
  replace hc := hc.below t1
  replace hg := hg.below t1
  go_at_call 33
  refine (ready_eq s wo ak ks ck ad ds cd ac codes cc true HR _ hk hd hc).mono ?_
  rintro e w2 ⟨rfl, b2⟩
  have j2 : Below w1.heap.size w1 w2 := by (repeat (first | exact Below.refl _ _ | refine Below.alloc ?_ (by first | omega | (simp; done) | (simp; omega)) _ | refine Below.drew ?_ | refine Below.setCell ?_ (by first | omega | (simp; done) | (simp; omega)) _ | refine Below.trans ?_ (Below.mono (by assumption) (by first | omega | (simp; done) | (simp; omega)))))
  have t2 : Below w.heap.size w w2 := t1.trans (j2.mono t1.size)
  replace hk := hk.below j2
  replace hd := hd.below j2
  replace hc := hc.below j2
  replace hg := hg.below j2
  replace q0 := below_cell j2 q0
  replace q1 := below_cell j2 q1
  replace q2 := below_cell j2 q2
  replace q3 := below_cell j2 q3
  replace m0 := below_cell j2 m0
  replace m1 := below_cell j2 m1
  replace lB := Nat.lt_of_lt_of_le lB j2.size
  replace lM := Nat.lt_of_lt_of_le lM j2.size
  go_wp2_with fail
  have lW := b2.size
  (refine wp_region_seq 5 [] [5, 6] 195 [false, true, false, true, false] [LitV w2.heap.size 0 #[] 85, OwnV 85 2 w2.heap.size gs.length (flat2 gs), LitV w2.heap.size 1 #[.int .i64 x, .int .i64 y] 85] (by kernel_rfl) (by kernel_rfl) rfl (mono_cons (fun v w w' h hb => h.kept hb) (mono_cons (fun v w w' h hb => h.kept hb) (mono_cons (fun v w w' h hb => h.kept hb) mono_nil))) ?_; simp only [pickOps, List.filterMap_cons, List.filterMap_nil, List.getElem?_toArray, List.getElem?_cons_succ, List.getElem?_cons_zero]; (repeat (refine wpFl_step _ rfl (fun w => (by go_simp; rfl)) ?_)); refine wpFl_nil ?_; simp only [maskOps, dummy, Act.put, List.setIfInBounds_toArray, List.set_cons_zero, List.set_cons_succ, List.take_succ_cons, List.take_zero, List.drop_succ_cons, List.drop_zero]; (repeat (refine wpQB_step (fun K hK => ?_); go_simp; first | (refine hK _ ?_; clear hK K) | (apply Exists.intro; refine ⟨fun ex => ?_, hK _ ?_⟩; (fail); clear hK K))); refine wpQB_nil ?_; simp only [relObl2, under, relEnd, and_true, List.nil_append, List.cons_append])
  refine ⟨⟨fun e => ?_, fun e v1 h1 => ?_, fun e v1 h1 v2 h2 => ?_⟩, fun e => ?_⟩
  · go_simp
    exact ⟨(Below.refl _ _).alloc (Nat.le_refl _) _, e.to.heap.size, rfl, by have := e.size; omega, Cells.new _ _ _⟩
  · obtain ⟨g, rfl, hg9, hc9⟩ := h1 (by kernel_rfl)
    exact gives_app0 el_rguesses e.to w2.heap.size g _ _ rfl rfl hc9 hg9 ag gs.length cg (flat2 gs) rfl (fun h => ⟨hg.none1 h, ng h⟩) (flat2_len gs) (SrcAt.recs2 (hg.below e.below)) (by unfold maxLen; omega) (by omega)
  · go_simp
    exact ⟨(Below.refl _ _).alloc (Nat.le_refl _) _, e.to.heap.size, rfl, by have := e.size; omega, Cells.new _ _ _⟩
  rintro v1 _ v2 ⟨a2, c2, rfl, o2⟩ v3 ⟨g3, rfl, hg3, hc3⟩
  simp only [Act.put, List.setIfInBounds_toArray, List.set_cons_zero, List.set_cons_succ]
  have heb := e.below
  have hez := e.size
  obtain ⟨x2, hx2⟩ : ∃ x : World, x = e.to := ⟨_, rfl⟩
  rw [← hx2] at heb hez hc3 o2 ⊢
  clear hx2
  refine wpList_app el_rguesses rfl _ _ rfl w2.heap.size a2 gs.length c2 _ rfl o2 (some ⟨g3, 0, none⟩) 1 1 _ rfl (fun h => by cases h) rfl hc3.src (fun u hu => by simp at hu; rcases hu with rfl | rfl <;> rfl) (by unfold maxLen; omega) (by omega) (by omega) ?_
  intro a7 c7 wX o7 b7
  have iX : Recs2At wX a7 X := by
    have := OwnL.recs2 (xs := gs ++ [(x, y)]) (by rw [flat2_snoc]; exact o7)
    rwa [HX.out] at this
  have nX : a7 = none → c7 = 0 := fun h => by subst h; exact o7.isnil.2
  have jX : Below w2.heap.size w2 wX := heb.trans b7
  clear o7 b7 o2 hc3 hg3 heb hez
  rw [HXl.out]
  clear m0 m1 lM lW
  have b3 := jX
  obtain ⟨w3, hwq⟩ : ∃ x : World, x = wX := ⟨_, rfl⟩
  subst hwq
  have j3 : Below w2.heap.size w2 w3 := by (repeat (first | exact Below.refl _ _ | refine Below.alloc ?_ (by first | omega | (simp; done) | (simp; omega)) _ | refine Below.drew ?_ | refine Below.setCell ?_ (by first | omega | (simp; done) | (simp; omega)) _ | refine Below.trans ?_ (Below.mono (by assumption) (by first | omega | (simp; done) | (simp; omega)))))
  have t3 : Below w.heap.size w w3 := t2.trans (j3.mono t2.size)
  replace hk := hk.below j3
  replace hd := hd.below j3
  replace hc := hc.below j3
  replace hg := hg.below j3
  replace q0 := below_cell j3 q0
  replace q1 := below_cell j3 q1
  replace q2 := below_cell j3 q2
  replace q3 := below_cell j3 q3
  replace lB := Nat.lt_of_lt_of_le lB j3.size
  clear jX
  go_wp2_with fail
  go_at_call 43
  refine (askedLaw_any s wo ak ks ck ad ds cd ac codes cc a7 X c7 0 HE _ hk hd lk ld hc (by omega) iX (by omega)).mono ?_
  rintro e w4 ⟨rfl, b4⟩
  have j4 : Below w3.heap.size w3 w4 := by (repeat (first | exact Below.refl _ _ | refine Below.alloc ?_ (by first | omega | (simp; done) | (simp; omega)) _ | refine Below.drew ?_ | refine Below.setCell ?_ (by first | omega | (simp; done) | (simp; omega)) _ | refine Below.trans ?_ (Below.mono (by assumption) (by first | omega | (simp; done) | (simp; omega)))))
  have t4 : Below w.heap.size w w4 := t3.trans (j4.mono t3.size)
  replace hk := hk.below j4
  replace hd := hd.below j4
  replace hc := hc.below j4
  replace hg := hg.below j4
  replace q0 := below_cell j4 q0
  replace q1 := below_cell j4 q1
  replace q2 := below_cell j4 q2
  replace q3 := below_cell j4 q3
  replace lB := Nat.lt_of_lt_of_le lB j4.size
  replace iX := iX.below j4
  go_wp2_with fail
  go_at_call 19
  refine (bookConv_at s wo ak ks ck ad ds cd _ hk hd lk ld nd).mono ?_
  rintro e w5 ⟨⟨akA, ckA, adA, cdA, rfl, kA, dA⟩, b5⟩
  have j5 : Below w4.heap.size w4 w5 := by (repeat (first | exact Below.refl _ _ | refine Below.alloc ?_ (by first | omega | (simp; done) | (simp; omega)) _ | refine Below.drew ?_ | refine Below.setCell ?_ (by first | omega | (simp; done) | (simp; omega)) _ | refine Below.trans ?_ (Below.mono (by assumption) (by first | omega | (simp; done) | (simp; omega)))))
  have t5 : Below w.heap.size w w5 := t4.trans (j5.mono t4.size)
  replace hk := hk.below j5
  replace hd := hd.below j5
  replace hc := hc.below j5
  replace hg := hg.below j5
  replace q0 := below_cell j5 q0
  replace q1 := below_cell j5 q1
  replace q2 := below_cell j5 q2
  replace q3 := below_cell j5 q3
  replace lB := Nat.lt_of_lt_of_le lB j5.size
  replace iX := iX.below j5
  go_wp2_with fail
  go_at_call 21
  refine (list_at ac codes cc _ hc (by omega) nc).mono ?_
  rintro e w6 ⟨⟨aC, cC, rfl, iC, _⟩, b6⟩
  have j6 : Below w5.heap.size w5 w6 := by (repeat (first | exact Below.refl _ _ | refine Below.alloc ?_ (by first | omega | (simp; done) | (simp; omega)) _ | refine Below.drew ?_ | refine Below.setCell ?_ (by first | omega | (simp; done) | (simp; omega)) _ | refine Below.trans ?_ (Below.mono (by assumption) (by first | omega | (simp; done) | (simp; omega)))))
  have t6 : Below w.heap.size w w6 := t5.trans (j6.mono t5.size)
  replace hk := hk.below j6
  replace hd := hd.below j6
  replace hc := hc.below j6
  replace hg := hg.below j6
  replace q0 := below_cell j6 q0
  replace q1 := below_cell j6 q1
  replace q2 := below_cell j6 q2
  replace q3 := below_cell j6 q3
  replace lB := Nat.lt_of_lt_of_le lB j6.size
  replace iX := iX.below j6
  replace kA := kA.below j6
  replace dA := dA.below j6
  go_wp2_with fail
  go_at_call 41
  refine (guessesConv_at ag gs cg _ hg (by omega)).mono ?_
  rintro e w7 ⟨⟨aG, cG, rfl, iG, _⟩, b7⟩
  have j7 : Below w6.heap.size w6 w7 := by (repeat (first | exact Below.refl _ _ | refine Below.alloc ?_ (by first | omega | (simp; done) | (simp; omega)) _ | refine Below.drew ?_ | refine Below.setCell ?_ (by first | omega | (simp; done) | (simp; omega)) _ | refine Below.trans ?_ (Below.mono (by assumption) (by first | omega | (simp; done) | (simp; omega)))))
  have t7 : Below w.heap.size w w7 := t6.trans (j7.mono t6.size)
  replace hk := hk.below j7
  replace hd := hd.below j7
  replace hc := hc.below j7
  replace hg := hg.below j7
  replace q0 := below_cell j7 q0
  replace q1 := below_cell j7 q1
  replace q2 := below_cell j7 q2
  replace q3 := below_cell j7 q3
  replace lB := Nat.lt_of_lt_of_le lB j7.size
  replace iX := iX.below j7
  replace kA := kA.below j7
  replace dA := dA.below j7
  replace iC := iC.below j7
  go_wp2_with fail
  go_at_call 40
  refine (fits_eq s wo akA ks ckA adA ds cdA aC codes cC aG gs cG n 0 Hn He _ kA dA lk ld iC (by omega) iG (by omega)).mono ?_
  rintro e w8 ⟨rfl, b8⟩
  have j8 : Below w7.heap.size w7 w8 := by (repeat (first | exact Below.refl _ _ | refine Below.alloc ?_ (by first | omega | (simp; done) | (simp; omega)) _ | refine Below.drew ?_ | refine Below.setCell ?_ (by first | omega | (simp; done) | (simp; omega)) _ | refine Below.trans ?_ (Below.mono (by assumption) (by first | omega | (simp; done) | (simp; omega)))))
  have t8 : Below w.heap.size w w8 := t7.trans (j8.mono t7.size)
  replace hk := hk.below j8
  replace hd := hd.below j8
  replace hc := hc.below j8
  replace hg := hg.below j8
  replace q0 := below_cell j8 q0
  replace q1 := below_cell j8 q1
  replace q2 := below_cell j8 q2
  replace q3 := below_cell j8 q3
  replace lB := Nat.lt_of_lt_of_le lB j8.size
  replace iX := iX.below j8
  replace kA := kA.below j8
  replace dA := dA.below j8
  replace iC := iC.below j8
  replace iG := iG.below j8
  clear kA dA iC iG
  go_wp2_with fail
  go_at_call 19
  refine (bookConv_at s wo ak ks ck ad ds cd _ hk hd lk ld nd).mono ?_
  rintro e w9 ⟨⟨akA, ckA, adA, cdA, rfl, kA, dA⟩, b9⟩
  have j9 : Below w8.heap.size w8 w9 := by (repeat (first | exact Below.refl _ _ | refine Below.alloc ?_ (by first | omega | (simp; done) | (simp; omega)) _ | refine Below.drew ?_ | refine Below.setCell ?_ (by first | omega | (simp; done) | (simp; omega)) _ | refine Below.trans ?_ (Below.mono (by assumption) (by first | omega | (simp; done) | (simp; omega)))))
  have t9 : Below w.heap.size w w9 := t8.trans (j9.mono t8.size)
  replace hk := hk.below j9
  replace hd := hd.below j9
  replace hc := hc.below j9
  replace hg := hg.below j9
  replace q0 := below_cell j9 q0
  replace q1 := below_cell j9 q1
  replace q2 := below_cell j9 q2
  replace q3 := below_cell j9 q3
  replace lB := Nat.lt_of_lt_of_le lB j9.size
  replace iX := iX.below j9
  go_wp2_with fail
  go_at_call 21
  refine (list_at ac codes cc _ hc (by omega) nc).mono ?_
  rintro e w10 ⟨⟨aC, cC, rfl, iC, _⟩, b10⟩
  have j10 : Below w9.heap.size w9 w10 := by (repeat (first | exact Below.refl _ _ | refine Below.alloc ?_ (by first | omega | (simp; done) | (simp; omega)) _ | refine Below.drew ?_ | refine Below.setCell ?_ (by first | omega | (simp; done) | (simp; omega)) _ | refine Below.trans ?_ (Below.mono (by assumption) (by first | omega | (simp; done) | (simp; omega)))))
  have t10 : Below w.heap.size w w10 := t9.trans (j10.mono t9.size)
  replace hk := hk.below j10
  replace hd := hd.below j10
  replace hc := hc.below j10
  replace hg := hg.below j10
  replace q0 := below_cell j10 q0
  replace q1 := below_cell j10 q1
  replace q2 := below_cell j10 q2
  replace q3 := below_cell j10 q3
  replace lB := Nat.lt_of_lt_of_le lB j10.size
  replace iX := iX.below j10
  replace kA := kA.below j10
  replace dA := dA.below j10
  go_wp2_with fail
  go_at_call 41
  refine (guessesConv_at a7 X c7 _ iX (by omega)).mono ?_
  rintro e w11 ⟨⟨aG, cG, rfl, iG, _⟩, b11⟩
  have j11 : Below w10.heap.size w10 w11 := by (repeat (first | exact Below.refl _ _ | refine Below.alloc ?_ (by first | omega | (simp; done) | (simp; omega)) _ | refine Below.drew ?_ | refine Below.setCell ?_ (by first | omega | (simp; done) | (simp; omega)) _ | refine Below.trans ?_ (Below.mono (by assumption) (by first | omega | (simp; done) | (simp; omega)))))
  have t11 : Below w.heap.size w w11 := t10.trans (j11.mono t10.size)
  replace hk := hk.below j11
  replace hd := hd.below j11
  replace hc := hc.below j11
  replace hg := hg.below j11
  replace q0 := below_cell j11 q0
  replace q1 := below_cell j11 q1
  replace q2 := below_cell j11 q2
  replace q3 := below_cell j11 q3
  replace lB := Nat.lt_of_lt_of_le lB j11.size
  replace iX := iX.below j11
  replace kA := kA.below j11
  replace dA := dA.below j11
  replace iC := iC.below j11
  go_wp2_with fail
  go_at_call 40
  refine (fits_eq s wo akA ks ckA adA ds cdA aC codes cC aG X cG m 0 Hm Hf _ kA dA lk ld iC (by omega) iG (by omega)).mono ?_
  rintro e w12 ⟨rfl, b12⟩
  have j12 : Below w11.heap.size w11 w12 := by (repeat (first | exact Below.refl _ _ | refine Below.alloc ?_ (by first | omega | (simp; done) | (simp; omega)) _ | refine Below.drew ?_ | refine Below.setCell ?_ (by first | omega | (simp; done) | (simp; omega)) _ | refine Below.trans ?_ (Below.mono (by assumption) (by first | omega | (simp; done) | (simp; omega)))))
  have t12 : Below w.heap.size w w12 := t11.trans (j12.mono t11.size)
  replace hk := hk.below j12
  replace hd := hd.below j12
  replace hc := hc.below j12
  replace hg := hg.below j12
  replace q0 := below_cell j12 q0
  replace q1 := below_cell j12 q1
  replace q2 := below_cell j12 q2
  replace q3 := below_cell j12 q3
  replace lB := Nat.lt_of_lt_of_le lB j12.size
  replace iX := iX.below j12
  replace kA := kA.below j12
  replace dA := dA.below j12
  replace iC := iC.below j12
  replace iG := iG.below j12
  clear kA dA iC iG
  go_wp2_with fail
  go_at_call 19
  refine (bookConv_at s wo ak ks ck ad ds cd _ hk hd lk ld nd).mono ?_
  rintro e w13 ⟨⟨akA, ckA, adA, cdA, rfl, kA, dA⟩, b13⟩
  have j13 : Below w12.heap.size w12 w13 := by (repeat (first | exact Below.refl _ _ | refine Below.alloc ?_ (by first | omega | (simp; done) | (simp; omega)) _ | refine Below.drew ?_ | refine Below.setCell ?_ (by first | omega | (simp; done) | (simp; omega)) _ | refine Below.trans ?_ (Below.mono (by assumption) (by first | omega | (simp; done) | (simp; omega)))))
  have t13 : Below w.heap.size w w13 := t12.trans (j13.mono t12.size)
  replace hk := hk.below j13
  replace hd := hd.below j13
  replace hc := hc.below j13
  replace hg := hg.below j13
  replace q0 := below_cell j13 q0
  replace q1 := below_cell j13 q1
  replace q2 := below_cell j13 q2
  replace q3 := below_cell j13 q3
  replace lB := Nat.lt_of_lt_of_le lB j13.size
  replace iX := iX.below j13
  go_wp2_with fail
  go_at_call 21
  refine (list_at ac codes cc _ hc (by omega) nc).mono ?_
  rintro e w14 ⟨⟨aC, cC, rfl, iC, _⟩, b14⟩
  have j14 : Below w13.heap.size w13 w14 := by (repeat (first | exact Below.refl _ _ | refine Below.alloc ?_ (by first | omega | (simp; done) | (simp; omega)) _ | refine Below.drew ?_ | refine Below.setCell ?_ (by first | omega | (simp; done) | (simp; omega)) _ | refine Below.trans ?_ (Below.mono (by assumption) (by first | omega | (simp; done) | (simp; omega)))))
  have t14 : Below w.heap.size w w14 := t13.trans (j14.mono t13.size)
  replace hk := hk.below j14
  replace hd := hd.below j14
  replace hc := hc.below j14
  replace hg := hg.below j14
  replace q0 := below_cell j14 q0
  replace q1 := below_cell j14 q1
  replace q2 := below_cell j14 q2
  replace q3 := below_cell j14 q3
  replace lB := Nat.lt_of_lt_of_le lB j14.size
  replace iX := iX.below j14
  replace kA := kA.below j14
  replace dA := dA.below j14
  go_wp2_with fail
  go_at_call 41
  refine (guessesConv_at ag gs cg _ hg (by omega)).mono ?_
  rintro e w15 ⟨⟨aG, cG, rfl, iG, _⟩, b15⟩
  have j15 : Below w14.heap.size w14 w15 := by (repeat (first | exact Below.refl _ _ | refine Below.alloc ?_ (by first | omega | (simp; done) | (simp; omega)) _ | refine Below.drew ?_ | refine Below.setCell ?_ (by first | omega | (simp; done) | (simp; omega)) _ | refine Below.trans ?_ (Below.mono (by assumption) (by first | omega | (simp; done) | (simp; omega)))))
  have t15 : Below w.heap.size w w15 := t14.trans (j15.mono t14.size)
  replace hk := hk.below j15
  replace hd := hd.below j15
  replace hc := hc.below j15
  replace hg := hg.below j15
  replace q0 := below_cell j15 q0
  replace q1 := below_cell j15 q1
  replace q2 := below_cell j15 q2
  replace q3 := below_cell j15 q3
  replace lB := Nat.lt_of_lt_of_le lB j15.size
  replace iX := iX.below j15
  replace kA := kA.below j15
  replace dA := dA.below j15
  replace iC := iC.below j15
  go_wp2_with fail
  go_at_call 42
  refine (poss_at s wo akA ks ckA adA ds cdA aC codes cC aG gs cG I P 0 HP Hg _ kA dA lk ld iC (by omega) iG (by omega)).mono ?_
  rintro e w16 ⟨⟨aP, cP, rfl, iP⟩, b16⟩
  have j16 : Below w15.heap.size w15 w16 := by (repeat (first | exact Below.refl _ _ | refine Below.alloc ?_ (by first | omega | (simp; done) | (simp; omega)) _ | refine Below.drew ?_ | refine Below.setCell ?_ (by first | omega | (simp; done) | (simp; omega)) _ | refine Below.trans ?_ (Below.mono (by assumption) (by first | omega | (simp; done) | (simp; omega)))))
  have t16 : Below w.heap.size w w16 := t15.trans (j16.mono t15.size)
  replace hk := hk.below j16
  replace hd := hd.below j16
  replace hc := hc.below j16
  replace hg := hg.below j16
  replace q0 := below_cell j16 q0
  replace q1 := below_cell j16 q1
  replace q2 := below_cell j16 q2
  replace q3 := below_cell j16 q3
  replace lB := Nat.lt_of_lt_of_le lB j16.size
  replace iX := iX.below j16
  replace kA := kA.below j16
  replace dA := dA.below j16
  replace iC := iC.below j16
  replace iG := iG.below j16
  clear kA dA iC iG
  go_wp2_with fail
  go_at_call 19
  refine (bookConv_at s wo ak ks ck ad ds cd _ hk hd lk ld nd).mono ?_
  rintro e w17 ⟨⟨akA, ckA, adA, cdA, rfl, kA, dA⟩, b17⟩
  have j17 : Below w16.heap.size w16 w17 := by (repeat (first | exact Below.refl _ _ | refine Below.alloc ?_ (by first | omega | (simp; done) | (simp; omega)) _ | refine Below.drew ?_ | refine Below.setCell ?_ (by first | omega | (simp; done) | (simp; omega)) _ | refine Below.trans ?_ (Below.mono (by assumption) (by first | omega | (simp; done) | (simp; omega)))))
  have t17 : Below w.heap.size w w17 := t16.trans (j17.mono t16.size)
  replace hk := hk.below j17
  replace hd := hd.below j17
  replace hc := hc.below j17
  replace hg := hg.below j17
  replace q0 := below_cell j17 q0
  replace q1 := below_cell j17 q1
  replace q2 := below_cell j17 q2
  replace q3 := below_cell j17 q3
  replace lB := Nat.lt_of_lt_of_le lB j17.size
  replace iX := iX.below j17
  replace iP := iP.below j17
  go_wp2_with fail
  go_at_call 21
  refine (list_at ac codes cc _ hc (by omega) nc).mono ?_
  rintro e w18 ⟨⟨aC, cC, rfl, iC, _⟩, b18⟩
  have j18 : Below w17.heap.size w17 w18 := by (repeat (first | exact Below.refl _ _ | refine Below.alloc ?_ (by first | omega | (simp; done) | (simp; omega)) _ | refine Below.drew ?_ | refine Below.setCell ?_ (by first | omega | (simp; done) | (simp; omega)) _ | refine Below.trans ?_ (Below.mono (by assumption) (by first | omega | (simp; done) | (simp; omega)))))
  have t18 : Below w.heap.size w w18 := t17.trans (j18.mono t17.size)
  replace hk := hk.below j18
  replace hd := hd.below j18
  replace hc := hc.below j18
  replace hg := hg.below j18
  replace q0 := below_cell j18 q0
  replace q1 := below_cell j18 q1
  replace q2 := below_cell j18 q2
  replace q3 := below_cell j18 q3
  replace lB := Nat.lt_of_lt_of_le lB j18.size
  replace iX := iX.below j18
  replace iP := iP.below j18
  replace kA := kA.below j18
  replace dA := dA.below j18
  go_wp2_with fail
  go_at_call 41
  refine (guessesConv_at a7 X c7 _ iX (by omega)).mono ?_
  rintro e w19 ⟨⟨aG, cG, rfl, iG, _⟩, b19⟩
  have j19 : Below w18.heap.size w18 w19 := by (repeat (first | exact Below.refl _ _ | refine Below.alloc ?_ (by first | omega | (simp; done) | (simp; omega)) _ | refine Below.drew ?_ | refine Below.setCell ?_ (by first | omega | (simp; done) | (simp; omega)) _ | refine Below.trans ?_ (Below.mono (by assumption) (by first | omega | (simp; done) | (simp; omega)))))
  have t19 : Below w.heap.size w w19 := t18.trans (j19.mono t18.size)
  replace hk := hk.below j19
  replace hd := hd.below j19
  replace hc := hc.below j19
  replace hg := hg.below j19
  replace q0 := below_cell j19 q0
  replace q1 := below_cell j19 q1
  replace q2 := below_cell j19 q2
  replace q3 := below_cell j19 q3
  replace lB := Nat.lt_of_lt_of_le lB j19.size
  replace iX := iX.below j19
  replace iP := iP.below j19
  replace kA := kA.below j19
  replace dA := dA.below j19
  replace iC := iC.below j19
  go_wp2_with fail
  go_at_call 42
  refine (poss_at s wo akA ks ckA adA ds cdA aC codes cC aG X cG I Q 0 HQ Hh _ kA dA lk ld iC (by omega) iG (by omega)).mono ?_
  rintro e w20 ⟨⟨aQ, cQ, rfl, iQ⟩, b20⟩
  have j20 : Below w19.heap.size w19 w20 := by (repeat (first | exact Below.refl _ _ | refine Below.alloc ?_ (by first | omega | (simp; done) | (simp; omega)) _ | refine Below.drew ?_ | refine Below.setCell ?_ (by first | omega | (simp; done) | (simp; omega)) _ | refine Below.trans ?_ (Below.mono (by assumption) (by first | omega | (simp; done) | (simp; omega)))))
  have t20 : Below w.heap.size w w20 := t19.trans (j20.mono t19.size)
  replace hk := hk.below j20
  replace hd := hd.below j20
  replace hc := hc.below j20
  replace hg := hg.below j20
  replace q0 := below_cell j20 q0
  replace q1 := below_cell j20 q1
  replace q2 := below_cell j20 q2
  replace q3 := below_cell j20 q3
  replace lB := Nat.lt_of_lt_of_le lB j20.size
  replace iX := iX.below j20
  replace iP := iP.below j20
  replace kA := kA.below j20
  replace dA := dA.below j20
  replace iC := iC.below j20
  replace iG := iG.below j20
  clear kA dA iC iG
  go_wp2_with fail
  go_at_call 19
  refine (bookConv_at s wo ak ks ck ad ds cd _ hk hd lk ld nd).mono ?_
  rintro e w21 ⟨⟨akA, ckA, adA, cdA, rfl, kA, dA⟩, b21⟩
  have j21 : Below w20.heap.size w20 w21 := by (repeat (first | exact Below.refl _ _ | refine Below.alloc ?_ (by first | omega | (simp; done) | (simp; omega)) _ | refine Below.drew ?_ | refine Below.setCell ?_ (by first | omega | (simp; done) | (simp; omega)) _ | refine Below.trans ?_ (Below.mono (by assumption) (by first | omega | (simp; done) | (simp; omega)))))
  have t21 : Below w.heap.size w w21 := t20.trans (j21.mono t20.size)
  replace hk := hk.below j21
  replace hd := hd.below j21
  replace hc := hc.below j21
  replace hg := hg.below j21
  replace q0 := below_cell j21 q0
  replace q1 := below_cell j21 q1
  replace q2 := below_cell j21 q2
  replace q3 := below_cell j21 q3
  replace lB := Nat.lt_of_lt_of_le lB j21.size
  replace iX := iX.below j21
  replace iP := iP.below j21
  replace iQ := iQ.below j21
  go_wp2_with fail
  go_at_call 21
  refine (list_at ac codes cc _ hc (by omega) nc).mono ?_
  rintro e w22 ⟨⟨aC, cC, rfl, iC, _⟩, b22⟩
  have j22 : Below w21.heap.size w21 w22 := by (repeat (first | exact Below.refl _ _ | refine Below.alloc ?_ (by first | omega | (simp; done) | (simp; omega)) _ | refine Below.drew ?_ | refine Below.setCell ?_ (by first | omega | (simp; done) | (simp; omega)) _ | refine Below.trans ?_ (Below.mono (by assumption) (by first | omega | (simp; done) | (simp; omega)))))
  have t22 : Below w.heap.size w w22 := t21.trans (j22.mono t21.size)
  replace hk := hk.below j22
  replace hd := hd.below j22
  replace hc := hc.below j22
  replace hg := hg.below j22
  replace q0 := below_cell j22 q0
  replace q1 := below_cell j22 q1
  replace q2 := below_cell j22 q2
  replace q3 := below_cell j22 q3
  replace lB := Nat.lt_of_lt_of_le lB j22.size
  replace iX := iX.below j22
  replace iP := iP.below j22
  replace iQ := iQ.below j22
  replace kA := kA.below j22
  replace dA := dA.below j22
  go_wp2_with fail
  go_at_call 40
  refine (fits_eq s wo akA ks ckA adA ds cdA aC codes cC none [] 0 (s * s * (s - 1)) 0 Hall Hj _ kA dA lk ld iC (by omega) (Recs2At.nil0 _) (by simp)).mono ?_
  rintro e w23 ⟨rfl, b23⟩
  have j23 : Below w22.heap.size w22 w23 := by (repeat (first | exact Below.refl _ _ | refine Below.alloc ?_ (by first | omega | (simp; done) | (simp; omega)) _ | refine Below.drew ?_ | refine Below.setCell ?_ (by first | omega | (simp; done) | (simp; omega)) _ | refine Below.trans ?_ (Below.mono (by assumption) (by first | omega | (simp; done) | (simp; omega)))))
  have t23 : Below w.heap.size w w23 := t22.trans (j23.mono t22.size)
  replace hk := hk.below j23
  replace hd := hd.below j23
  replace hc := hc.below j23
  replace hg := hg.below j23
  replace q0 := below_cell j23 q0
  replace q1 := below_cell j23 q1
  replace q2 := below_cell j23 q2
  replace q3 := below_cell j23 q3
  replace lB := Nat.lt_of_lt_of_le lB j23.size
  replace iX := iX.below j23
  replace iP := iP.below j23
  replace iQ := iQ.below j23
  replace kA := kA.below j23
  replace dA := dA.below j23
  replace iC := iC.below j23
  clear kA dA iC
  go_wp2_with fail
  go_at_call 19
  refine (bookConv_at s wo ak ks ck ad ds cd _ hk hd lk ld nd).mono ?_
  rintro e w24 ⟨⟨akA, ckA, adA, cdA, rfl, kA, dA⟩, b24⟩
  have j24 : Below w23.heap.size w23 w24 := by (repeat (first | exact Below.refl _ _ | refine Below.alloc ?_ (by first | omega | (simp; done) | (simp; omega)) _ | refine Below.drew ?_ | refine Below.setCell ?_ (by first | omega | (simp; done) | (simp; omega)) _ | refine Below.trans ?_ (Below.mono (by assumption) (by first | omega | (simp; done) | (simp; omega)))))
  have t24 : Below w.heap.size w w24 := t23.trans (j24.mono t23.size)
  replace hk := hk.below j24
  replace hd := hd.below j24
  replace hc := hc.below j24
  replace hg := hg.below j24
  replace q0 := below_cell j24 q0
  replace q1 := below_cell j24 q1
  replace q2 := below_cell j24 q2
  replace q3 := below_cell j24 q3
  replace lB := Nat.lt_of_lt_of_le lB j24.size
  replace iX := iX.below j24
  replace iP := iP.below j24
  replace iQ := iQ.below j24
  go_wp2_with fail
  go_at_call 21
  refine (list_at ac codes cc _ hc (by omega) nc).mono ?_
  rintro e w25 ⟨⟨aC, cC, rfl, iC, _⟩, b25⟩
  have j25 : Below w24.heap.size w24 w25 := by (repeat (first | exact Below.refl _ _ | refine Below.alloc ?_ (by first | omega | (simp; done) | (simp; omega)) _ | refine Below.drew ?_ | refine Below.setCell ?_ (by first | omega | (simp; done) | (simp; omega)) _ | refine Below.trans ?_ (Below.mono (by assumption) (by first | omega | (simp; done) | (simp; omega)))))
  have t25 : Below w.heap.size w w25 := t24.trans (j25.mono t24.size)
  replace hk := hk.below j25
  replace hd := hd.below j25
  replace hc := hc.below j25
  replace hg := hg.below j25
  replace q0 := below_cell j25 q0
  replace q1 := below_cell j25 q1
  replace q2 := below_cell j25 q2
  replace q3 := below_cell j25 q3
  replace lB := Nat.lt_of_lt_of_le lB j25.size
  replace iX := iX.below j25
  replace iP := iP.below j25
  replace iQ := iQ.below j25
  replace kA := kA.below j25
  replace dA := dA.below j25
  go_wp2_with fail
  go_at_call 42
  refine (poss_at s wo akA ks ckA adA ds cdA aC codes cC none [] 0 I R 0 HRr Hk _ kA dA lk ld iC (by omega) (Recs2At.nil0 _) (by simp)).mono ?_
  rintro e w26 ⟨⟨aR, cR, rfl, _⟩, b26⟩
  have j26 : Below w25.heap.size w25 w26 := by (repeat (first | exact Below.refl _ _ | refine Below.alloc ?_ (by first | omega | (simp; done) | (simp; omega)) _ | refine Below.drew ?_ | refine Below.setCell ?_ (by first | omega | (simp; done) | (simp; omega)) _ | refine Below.trans ?_ (Below.mono (by assumption) (by first | omega | (simp; done) | (simp; omega)))))
  have t26 : Below w.heap.size w w26 := t25.trans (j26.mono t25.size)
  replace hk := hk.below j26
  replace hd := hd.below j26
  replace hc := hc.below j26
  replace hg := hg.below j26
  replace q0 := below_cell j26 q0
  replace q1 := below_cell j26 q1
  replace q2 := below_cell j26 q2
  replace q3 := below_cell j26 q3
  replace lB := Nat.lt_of_lt_of_le lB j26.size
  replace iX := iX.below j26
  replace iP := iP.below j26
  replace iQ := iQ.below j26
  replace kA := kA.below j26
  replace dA := dA.below j26
  replace iC := iC.below j26
  clear kA dA iC
  have ss : s * s ≤ 1681 := Int.le_trans (Int.mul_le_mul_of_nonneg_left s1 (by omega)) (by omega)
  have ss0 : 0 ≤ s * s := Int.mul_nonneg (by omega) (by omega)
  have sss0 : 0 ≤ s * s * (s - 1) := Int.mul_nonneg ss0 (by omega)
  have sss : s * s * (s - 1) ≤ 67240 := Int.le_trans (Int.mul_le_mul ss (show s - 1 ≤ 40 by omega) (by omega) (by omega)) (by omega)
  have v1 : IntKind.i64.wrap (s * s) = s * s := IntWalk.i64_in _ (by omega)
  have v2 : IntKind.i64.wrap (s - 1) = s - 1 := IntWalk.i64_in _ (by omega)
  have v3 : IntKind.i64.wrap (s * s * (s - 1)) = s * s * (s - 1) := IntWalk.i64_in _ (by omega)
  clear hkn2 hkn3 x0 tm1 tm2 tm3
  go_wp2_with fail
  go_loopw [25] (fun i wr => ∃ j : Nat, j ≤ Q.length ∧ i = .int .i64 j ∧ Below w26.heap.size w26 wr) (fun i _ => Q.length - (intOf i).toNat)
  case atStart => exact ⟨0, Nat.zero_le _, rfl, Below.refl _ _⟩
  case round =>
    obtain ⟨j, hj, rfl, bR⟩ := hrel
    by_cases hlt : j < Q.length
    · have hpq := HPQ.out Q[j] (List.getElem_mem hlt)
      obtain ⟨bp, op, rfl, lbp, cpj⟩ := (iQ.below bR) j hlt
      replace cpj := cpj.trans (by rw [List.getD_eq_getElem?_getD, List.getElem?_eq_getElem hlt]; rfl : _ = some (Value.int .i64 Q[j]))
      obtain ⟨v, hv⟩ : ∃ v, Q[j] = v := ⟨_, rfl⟩
      rw [hv] at hpq cpj
      have Hpq := Lib.hid hpq
      have hji : (j : Int) < (Q.length : Int) := by omega
      have Hlt := Lib.hid hlt
      clear hpq hv hlt
      go_wp2_with fail
      go_at_call 46
      refine (has_eqM aP P cP v true Hpq _ (iP.below bR) lP).mono ?_
      rintro e _ ⟨rfl, rfl⟩
      go_wp2_with fail
      go_roundw
      case rel => exact ⟨j + 1, by have := Hlt.out; omega, by go_num, bR⟩
      case measure => have := Hlt.out; simp [intOf]; omega
    · have hjP : j = Q.length := by omega
      subst hjP
      have tR := t26.trans (bR.mono t26.size)
      go_wp2_with fail
      go_at_call 17
      refine (awake_any _).mono ?_
      rintro e wE ⟨rfl, bE⟩
      go_wp2_with fail
      go_ret
      exact ⟨rfl, tR.trans (bE.mono tR.size)⟩

theorem more_walk (s wo : Int) (ak : Option Addr) (ks : List (Int × Int × Int)) (ck : Nat) (ad : Option Addr) (ds : List Int) (cd : Nat) (ac : Option Addr) (codes : List Int) (cc : Nat) (ag : Option Addr) (gs : List (Int × Int)) (cg : Nat) (x y a : Int) (w : World) (hk : Recs3At w ak ks) (hd : IntsAt w ad ds) (nd : ad = none → cd = 0) (hc : IntsAt w ac codes) (nc : ac = none → cc = 0) (hg : Recs2At w ag gs) (ng : ag = none → cg = 0) (ha : (Lit.int .u8 a).wf = true) :
    Calls Try.prog 14 #[.agg #[.int .i64 s, .int .i64 wo, .slice ak ks.length ck, .slice ad ds.length cd], .slice ac codes.length cc, .slice ag gs.length cg, .agg #[.int .i64 x, .int .i64 y], .int .u8 a] w fun e w' => e = .returned (.bool true) ∧ Below w.heap.size w w' := by
  obtain ⟨a0, a1⟩ := u8_bM ha
  obtain ⟨A, rfl⟩ := Int.eq_ofNat_of_zero_le a0
  cases hR : readyB s wo ks ds codes
  · exact more_a s wo ak ks ck ad ds cd ac codes cc ag gs cg x y A w hk hd nd hc nc hg ng (by omega) hR
  by_cases hz : (codes.length : Int) = 0
  · exact more_a2 s wo ak ks ck ad ds cd ac codes cc ag gs cg x y A w hk hd nd hc nc hg ng (by omega) hR (by simpa using hz)
  have dz : ((codes.length : Int) == 0) = false := by simpa using hz
  by_cases h5 : 5 < (gs.length : Int)
  · exact more_a3 s wo ak ks ck ad ds cd ac codes cc ag gs cg x y A w hk hd nd hc nc hg ng (by omega) hR dz (by simpa using h5)
  by_cases hE : askErr s wo ks ds codes (gs ++ [(x, y)]) = 0
  · have hI : (A : Int) % (codes.length : Int) = ((A % codes.length : Nat) : Int) := by omega
    have hIl : A % codes.length < codes.length := Nat.mod_lt _ (by omega)
    obtain ⟨f, hf, ⟨e, _, e1, e2, e3⟩, f1, f2, j1, k1, al, rl, hf11, hmn, hna, lQ, lP, hPQ, _⟩ := more_fin hE hIl
    rw [al] at hna
    rcases hf with rfl | rfl
    · exact more_d s wo ak ks ck ad ds cd ac codes cc ag gs cg x y A w hk hd nd hc nc hg ng (by omega) hR dz (by omega) (Lib.hid hE) _ hI hIl _ _ e _ _ _ (Lib.hid rfl) (Lib.hid e1) (Lib.hid rfl) (Lib.hid f1) (Lib.hid rfl) (Lib.hid e2) (Lib.hid rfl) (Lib.hid f2) (Lib.hid al) (Lib.hid j1) (Lib.hid rfl) (Lib.hid k1) (by simpa using rl) lP lQ (e3 rfl) (by simpa using hmn) (by simpa using hna) (Lib.hid hPQ)
    · obtain ⟨m0, q0⟩ := hf11 rfl
      exact more_c s wo ak ks ck ad ds cd ac codes cc ag gs cg x y A w hk hd nd hc nc hg ng (by omega) hR dz (by omega) (Lib.hid hE) _ hI hIl _ _ e _ _ _ (Lib.hid rfl) (Lib.hid e1) (Lib.hid rfl) (Lib.hid f1) (Lib.hid rfl) (Lib.hid e2) (Lib.hid rfl) (Lib.hid f2) (Lib.hid al) (Lib.hid j1) (Lib.hid rfl) (Lib.hid k1) (by simpa using rl) lP lQ m0 (by rw [q0]; rfl)
  · exact more_b s wo ak ks ck ad ds cd ac codes cc ag gs cg x y A w hk hd nd hc nc hg ng (by omega) hR dz (by omega) _ (by simpa using hE) (Lib.hid rfl)
end Go.Proofs.Ytmplgcefhpobgaa
