/- CopiesOnce: the walk -/
import Derived.Test.YtfclemnkcpadpaaRt
namespace Go.Proofs.Ytfclemnkcpadpaa
set_option linter.unusedVariables false
set_option linter.unusedSimpArgs false
set_option linter.unnecessarySimpa false
open Go.RowKit Go.Flow Go.Shelf

section
variable (a : Option Addr) (c : Nat) (ar : Option Addr) (cr : Nat) (p : Post) (al : Option Addr) (l : List Ent) (M : Nat) (cl : Nat) (hM : Hid (l.length = M)) (w : World)
include hM
theorem oddM_eq (E : Int) (O : List Int) (n : Nat) (hE : Hid (bookErr p l = E)) (hO : Hid (oddOut p l = O)) (hn : Hid (O.length = n)) (hs : IntsAt w a p.sends) (hr : RoutesAt w ar p.routes) (sm : Hid (PostSmall p)) (he : EntsAt w al l) (hl : M ≤ 1000) :
    Calls Try.prog 40 #[.agg #[.slice a p.sends.length c, .slice ar p.routes.length cr, .int .i64 p.pat], .slice al M cl] w fun e w' => (∃ a c, e = .returned (.tuple #[.slice a n c, .int .i64 E]) ∧ IntsAt w' a O) ∧ Below w.heap.size w w' := by
  obtain ⟨rfl⟩ := hM
  rw [← hE.out, ← hn.out, ← hO.out]; exact Odd_any a c ar cr p al l cl w hs hr sm.out he (by omega)
omit a c ar cr p in
theorem entsM_eq (he : EntsAt w al l) (hl : M ≤ 1000) :
    Calls Try.prog 41 #[.slice al M cl] w fun e w' => (∃ a c, e = .returned (.slice a M c) ∧ EntsAt w' a l) ∧ Below w.heap.size w w' := by
  obtain ⟨rfl⟩ := hM
  exact entriesConv_any al l cl w he hl
theorem explM_eq (E : Int) (t : List (List (List Int))) (n : Nat) (hE : Hid (explErr p l = E)) (ht : Hid (explOut p l = t)) (hn : Hid (t.length = n)) (hs : IntsAt w a p.sends) (hr : RoutesAt w ar p.routes) (sm : Hid (PostSmall p)) (he : EntsAt w al l) (hl : M ≤ 1000) :
    Calls Try.prog 48 #[.agg #[.slice a p.sends.length c, .slice ar p.routes.length cr, .int .i64 p.pat], .slice al M cl] w fun e w' => (∃ a c, e = .returned (.tuple #[.slice a n c, .int .i64 E]) ∧ TruthAt w' a t ∧ (a = none → c = 0)) ∧ Below w.heap.size w w' := by
  obtain ⟨rfl⟩ := hM
  exact explain_eq a c ar cr p al l cl w E t n hE ht hn hs hr sm he hl
theorem proveM_eq (at_ : Option Addr) (t : List (List (List Int))) (N ct : Nat) (B : Bool) (hB : Hid (proveB p t l = B)) (hN : Hid (t.length = N)) (hs : IntsAt w a p.sends) (hr : RoutesAt w ar p.routes) (sm : Hid (PostSmall p)) (ht : TruthAt w at_ t) (st : Hid (TruthSmall t)) (he : EntsAt w al l) (hl : M ≤ 1000) :
    Calls Try.prog 52 #[.agg #[.slice a p.sends.length c, .slice ar p.routes.length cr, .int .i64 p.pat], .slice at_ N ct, .slice al M cl] w fun e w' => e = .returned (.bool B) ∧ Below w.heap.size w w' := by
  obtain ⟨rfl⟩ := hM
  exact prove_eq a c ar cr p at_ t N ct al l cl w B hB hN hs hr sm ht st he hl
end
theorem noted0_eq (a : Option Addr) (c : Nat) (ar : Option Addr) (cr : Nat) (p : Post) (at_ : Option Addr) (t : List (List (List Int))) (N ct : Nat) (aw : Option Addr) (ws : List Int) (cw : Nat) (many : Nat) (w : World) (J : List Ent) (M : Nat) (l : List Ent) (hM : Hid (many % 6 = M)) (hl : Hid (noteF J ws M = l)) (hJ : Hid (playF p t = J)) (hN : Hid (t.length = N)) (hn : Hid (J.length = N)) (hpos : 0 < N) (hs : IntsAt w a p.sends) (hr : RoutesAt w ar p.routes) (ht : TruthAt w at_ t) (ok : Hid (PlayOk p t)) (hw : U16At w aw ws) (hu : Hid (U16s ws)) (lw : ws.length ≤ 9223372036854775807) (hm : many ≤ 255) (hNb : N ≤ 1000) :
    Calls Try.prog 49 #[.agg #[.slice a p.sends.length c, .slice ar p.routes.length cr, .int .i64 p.pat], .slice at_ N ct, .slice aw ws.length cw, .int .u8 (many : Int), .int .u8 0] w fun e w' => (∃ ao co, e = .returned (.slice ao M co) ∧ EntsAt w' ao l) ∧ Below w.heap.size w w' := by
  obtain ⟨rfl⟩ := hM
  obtain ⟨rfl⟩ := hl
  exact noted0_any a c ar cr p at_ t N ct aw ws cw many w J hJ hN hn hpos hs hr ht ok hw hu lw hm hNb
theorem sureF_at {p : Post} {n m : Nat} (h : m < (sureF p n).length) {k : Nat} (e : (sureF p n)[m] = (k : Int)) : sureB p k = true := by
  have := List.getElem_mem h
  rw [e] at this
  obtain ⟨x, hx, hxe⟩ := List.mem_map.1 this
  obtain rfl : x = k := by have h3 : (x : Int) = (k : Int) := hxe; omega
  exact (List.mem_filter.1 hx).2

set_option maxRecDepth 100000 in
set_option maxHeartbeats 8000000 in
theorem once_a1 (a : Option Addr) (c : Nat) (ar : Option Addr) (cr : Nat) (p : Post) (aw : Option Addr) (ws : List Int) (cw : Nat) (y : Int) (w : World) (hs : IntsAt w a p.sends) (hr : RoutesAt w ar p.routes) (na : a = none → c = 0) (big : PostBig p) (hw : U16At w aw ws) (_ : aw = none → cw = 0) (lw0 : ws.length ≤ cw) (lw1 : cw ≤ maxLen) (hu : U16s ws) (hy : (Lit.int .u8 y).wf = true) (hT : readyB p = false) :
    Calls Try.prog 16 #[.agg #[.slice a p.sends.length c, .slice ar p.routes.length cr, .int .i64 p.pat], .slice aw ws.length cw, .int .u8 y] w fun e w' => e = .returned (.bool true) ∧ Below w.heap.size w w' := by

  have HB := Lib.hid big
  have HT := Lib.hid hT
  clear hT big
  go_enter Try.func16, Try.ntmps16
  go_wp2_with fail
  go_at_call 44
  refine (ready_eq a c ar cr p _ false HT (hs.below (by (repeat (first | exact Below.refl _ _ | refine Below.alloc ?_ (by first | omega | (simp; done) | (simp; omega)) _ | refine Below.drew ?_ | refine Below.setCell ?_ (by first | omega | (simp; done) | (simp; omega)) _ | refine Below.trans ?_ (Below.mono (by assumption) (by first | omega | (simp; done) | (simp; omega))))))) (hr.below (by (repeat (first | exact Below.refl _ _ | refine Below.alloc ?_ (by first | omega | (simp; done) | (simp; omega)) _ | refine Below.drew ?_ | refine Below.setCell ?_ (by first | omega | (simp; done) | (simp; omega)) _ | refine Below.trans ?_ (Below.mono (by assumption) (by first | omega | (simp; done) | (simp; omega))))))) HB.out).mono ?_
  rintro e w1 ⟨rfl, b1⟩
  have t1 : Below w.heap.size w w1 := by (repeat (first | exact Below.refl _ _ | refine Below.alloc ?_ (by first | omega | (simp; done) | (simp; omega)) _ | refine Below.drew ?_ | refine Below.setCell ?_ (by first | omega | (simp; done) | (simp; omega)) _ | refine Below.trans ?_ (Below.mono (by assumption) (by first | omega | (simp; done) | (simp; omega)))))
  replace hs := hs.below t1
  replace hr := hr.below t1
  replace hw := hw.below t1
  have q0 := box_cells b1 0 rfl
  have q1 := box_cells b1 1 rfl
  have q2 := box_cells b1 2 rfl
  have lB := cell_ltK q0
  go_wp2_with fail
  go_at_call 19
  refine (awake_any _).mono ?_
  rintro e w2 ⟨rfl, b2⟩
  have j2 : Below w1.heap.size w1 w2 := by (repeat (first | exact Below.refl _ _ | refine Below.alloc ?_ (by first | omega | (simp; done) | (simp; omega)) _ | refine Below.drew ?_ | refine Below.setCell ?_ (by first | omega | (simp; done) | (simp; omega)) _ | refine Below.trans ?_ (Below.mono (by assumption) (by first | omega | (simp; done) | (simp; omega)))))
  have t2 : Below w.heap.size w w2 := t1.trans (j2.mono t1.size)
  replace hs := hs.below j2
  replace hr := hr.below j2
  replace hw := hw.below j2
  replace q0 := below_cell j2 q0
  replace q1 := below_cell j2 q1
  replace q2 := below_cell j2 q2
  replace lB := Nat.lt_of_lt_of_le lB j2.size
  go_wp2_with fail
  go_ret
  exact ⟨rfl, t2⟩

set_option maxRecDepth 100000 in
set_option maxHeartbeats 8000000 in
theorem once_a2 (a : Option Addr) (c : Nat) (ar : Option Addr) (cr : Nat) (p : Post) (aw : Option Addr) (ws : List Int) (cw : Nat) (y : Int) (w : World) (hs : IntsAt w a p.sends) (hr : RoutesAt w ar p.routes) (na : a = none → c = 0) (big : PostBig p) (hw : U16At w aw ws) (_ : aw = none → cw = 0) (lw0 : ws.length ≤ cw) (lw1 : cw ≤ maxLen) (hu : U16s ws) (hy : (Lit.int .u8 y).wf = true) (hT : readyB p = true) :
    Calls Try.prog 16 #[.agg #[.slice a p.sends.length c, .slice ar p.routes.length cr, .int .i64 p.pat], .slice aw ws.length cw, .int .u8 y] w fun e w' => e = .returned (.bool true) ∧ Below w.heap.size w w' := by

  have HB := Lib.hid big
  have HT := Lib.hid hT
  have SM := Lib.hid (ready_small hT).1
  have HE := Lib.hid (ready_small hT).2
  have HU := Lib.hid hu
  have lS : p.sends.length ≤ 1000 := SM.out.1
  have lR : p.routes.length ≤ 1000 := SM.out.2
  have hpos : 0 < p.sends.length := List.length_pos_iff.2 (postErr_ok HE.out).2.2.2.1
  have lw : ws.length ≤ 9223372036854775807 := by unfold maxLen at lw1; omega
  obtain ⟨m, rfl, hm⟩ := u8_bd hy
  obtain ⟨M, hM⟩ : ∃ M, m % 6 = M := ⟨_, rfl⟩
  have hM6 : M ≤ 1000 := by omega
  have hM8 : M ≤ 8 := by omega
  have HM6 := Lib.hid hM
  have hsh := pkT_shape HE.out ws
  have hst := pkT_small HE.out ws
  have hlen := pkT_len p ws
  obtain ⟨t, ht⟩ : ∃ t, pkT p ws = t := ⟨_, rfl⟩
  rw [ht] at hsh hst hlen
  have HTt := Lib.hid ht
  have HtN := Lib.hid hlen
  have ST := Lib.hid hst
  have HPO := Lib.hid (playOk_of HE.out hsh)
  have hE1 : playErr p t = 0 := by unfold playErr; rw [if_pos HE.out]; exact hsh
  have hO1 : playOut p t = playF p t := by unfold playOut; rw [if_pos hE1]
  have hJ := play_ok HE.out hsh
  have nb := note_book HE.out hsh ws hM8
  have nx := note_expls HE.out hsh ws M
  have nz := note_search HE.out hsh ws M
  have nl := noteF_len (playF p t) ws M
  obtain ⟨J, hJe⟩ : ∃ J, playF p t = J := ⟨_, rfl⟩
  rw [hJe] at hJ nb nx nz nl hO1
  obtain ⟨l, hl⟩ : ∃ l, noteF J ws M = l := ⟨_, rfl⟩
  rw [hl] at nb nx nz nl
  have HJe := Lib.hid hJe
  have Hl := Lib.hid hl
  have HnJ := Lib.hid hJ.len
  have HJ := Lib.hid hJ
  have HE1 := Lib.hid hE1
  have HO1 := Lib.hid hO1
  have Hb := Lib.hid nb
  have HM := Lib.hid nl
  have Hodd : Hid (oddOut p l = []) := Lib.hid (by unfold oddOut; rw [if_pos nb]; exact odd_none nz)
  have Hon : Hid (([] : List Int).length = 0) := Lib.hid rfl
  have HV1 : Hid (proveB p t l = true) := Lib.hid (by unfold proveB; simp [nb, hsh, nx])
  obtain ⟨z, hz⟩ : ∃ z, searchF p l = some z := Option.isSome_iff_exists.1 nz
  obtain ⟨x1, x2, x3⟩ := explain_ok nb hz
  have hxo : explOut p l = truthF p z := by unfold explOut; rw [if_neg (by simpa using nb), hz]
  have HXE : Hid (explErr p l = 0) := Lib.hid (by unfold explErr; rw [if_neg (by simpa using nb), if_pos (by unfold explB; exact nz)])
  obtain ⟨X, hX⟩ : ∃ X, truthF p z = X := ⟨_, rfl⟩
  rw [hX] at hxo x1 x2 x3
  have HV2 : Hid (proveB p X l = true) := Lib.hid (by unfold proveB; simp [nb, x1, x3])
  obtain ⟨nX, hnX⟩ : ∃ n, X.length = n := ⟨_, rfl⟩
  have HXO := Lib.hid hxo
  have HXn := Lib.hid hnX
  have SX := Lib.hid x2
  have HS : Hid (spansOut p = spansF p p.sends.length) := Lib.hid (by unfold spansOut; rw [if_pos HE.out])
  have HnS : Hid ((spansF p p.sends.length).length = p.sends.length) := Lib.hid (spansF_len p _)
  have hsu : sureOut p = sureF p p.sends.length := by unfold sureOut; rw [if_pos HE.out]
  have hsl := sureF_len p p.sends.length
  have hat : ∀ (m : Nat) (h : m < (sureF p p.sends.length).length) (k : Nat), (sureF p p.sends.length)[m] = (k : Int) → sureB p k = true := fun m h k e => sureF_at h e
  obtain ⟨L, hL⟩ : ∃ L, sureF p p.sends.length = L := ⟨_, rfl⟩
  rw [hL] at hsu hsl
  have Hat : Hid (∀ (m : Nat) (h : m < L.length) (k : Nat), L[m] = (k : Int) → sureB p k = true) := Lib.hid (by subst hL; exact hat)
  obtain ⟨nL, hnL⟩ : ∃ n, L.length = n := ⟨_, rfl⟩
  rw [hnL] at hsl
  have HL := Lib.hid hsu
  have HnL := Lib.hid hnL
  clear hT big hy hu lw0 lw1 hM hsh hst hlen ht hE1 hO1 hJ nb nx nz nl hJe hl hz x1 x2 x3 hxo hX hnX hsu hat hL hnL z
  go_enter Try.func16, Try.ntmps16
  go_wp2_with fail
  go_at_call 44
  refine (ready_eq a c ar cr p _ true HT (hs.below (by (repeat (first | exact Below.refl _ _ | refine Below.alloc ?_ (by first | omega | (simp; done) | (simp; omega)) _ | refine Below.drew ?_ | refine Below.setCell ?_ (by first | omega | (simp; done) | (simp; omega)) _ | refine Below.trans ?_ (Below.mono (by assumption) (by first | omega | (simp; done) | (simp; omega))))))) (hr.below (by (repeat (first | exact Below.refl _ _ | refine Below.alloc ?_ (by first | omega | (simp; done) | (simp; omega)) _ | refine Below.drew ?_ | refine Below.setCell ?_ (by first | omega | (simp; done) | (simp; omega)) _ | refine Below.trans ?_ (Below.mono (by assumption) (by first | omega | (simp; done) | (simp; omega))))))) HB.out).mono ?_
  rintro e w1 ⟨rfl, b1⟩
  have t1 : Below w.heap.size w w1 := by (repeat (first | exact Below.refl _ _ | refine Below.alloc ?_ (by first | omega | (simp; done) | (simp; omega)) _ | refine Below.drew ?_ | refine Below.setCell ?_ (by first | omega | (simp; done) | (simp; omega)) _ | refine Below.trans ?_ (Below.mono (by assumption) (by first | omega | (simp; done) | (simp; omega)))))
  replace hs := hs.below t1
  replace hr := hr.below t1
  replace hw := hw.below t1
  have q0 := box_cells b1 0 rfl
  have q1 := box_cells b1 1 rfl
  have q2 := box_cells b1 2 rfl
  have lB := cell_ltK q0
  go_wp2_with fail
  go_at_call 46
  refine (pickedT_eq a c ar cr p aw ws cw _ t HTt (hs.below (by (repeat (first | exact Below.refl _ _ | refine Below.alloc ?_ (by first | omega | (simp; done) | (simp; omega)) _ | refine Below.drew ?_ | refine Below.setCell ?_ (by first | omega | (simp; done) | (simp; omega)) _ | refine Below.trans ?_ (Below.mono (by assumption) (by first | omega | (simp; done) | (simp; omega))))))) (hr.below (by (repeat (first | exact Below.refl _ _ | refine Below.alloc ?_ (by first | omega | (simp; done) | (simp; omega)) _ | refine Below.drew ?_ | refine Below.setCell ?_ (by first | omega | (simp; done) | (simp; omega)) _ | refine Below.trans ?_ (Below.mono (by assumption) (by first | omega | (simp; done) | (simp; omega))))))) (hw.below (by (repeat (first | exact Below.refl _ _ | refine Below.alloc ?_ (by first | omega | (simp; done) | (simp; omega)) _ | refine Below.drew ?_ | refine Below.setCell ?_ (by first | omega | (simp; done) | (simp; omega)) _ | refine Below.trans ?_ (Below.mono (by assumption) (by first | omega | (simp; done) | (simp; omega))))))) HU lw HE).mono ?_
  rintro e w2 ⟨⟨a2, c2, rfl, tA, nT⟩, b2⟩
  have j2 : Below w1.heap.size w1 w2 := by (repeat (first | exact Below.refl _ _ | refine Below.alloc ?_ (by first | omega | (simp; done) | (simp; omega)) _ | refine Below.drew ?_ | refine Below.setCell ?_ (by first | omega | (simp; done) | (simp; omega)) _ | refine Below.trans ?_ (Below.mono (by assumption) (by first | omega | (simp; done) | (simp; omega)))))
  have t2 : Below w.heap.size w w2 := t1.trans (j2.mono t1.size)
  replace hs := hs.below j2
  replace hr := hr.below j2
  replace hw := hw.below j2
  replace q0 := below_cell j2 q0
  replace q1 := below_cell j2 q1
  replace q2 := below_cell j2 q2
  replace lB := Nat.lt_of_lt_of_le lB j2.size
  go_wp2_with fail
  go_at_call 49
  refine (noted0_eq a c ar cr p a2 t p.sends.length c2 aw ws cw m _ J M l HM6 Hl HJe HtN HnJ hpos hs hr tA HPO hw HU lw hm lS).mono ?_
  rintro e w3 ⟨⟨a3, c3, rfl, eL⟩, b3⟩
  have j3 : Below w2.heap.size w2 w3 := by (repeat (first | exact Below.refl _ _ | refine Below.alloc ?_ (by first | omega | (simp; done) | (simp; omega)) _ | refine Below.drew ?_ | refine Below.setCell ?_ (by first | omega | (simp; done) | (simp; omega)) _ | refine Below.trans ?_ (Below.mono (by assumption) (by first | omega | (simp; done) | (simp; omega)))))
  have t3 : Below w.heap.size w w3 := t2.trans (j3.mono t2.size)
  replace hs := hs.below j3
  replace hr := hr.below j3
  replace hw := hw.below j3
  replace q0 := below_cell j3 q0
  replace q1 := below_cell j3 q1
  replace q2 := below_cell j3 q2
  replace lB := Nat.lt_of_lt_of_le lB j3.size
  replace tA := tA.below j3
  go_wp2_with fail
  go_at_call 21
  refine (post_eq a c ar cr p _ hs hr SM na).mono ?_
  rintro e w4 ⟨⟨a4, c4, r4, d4, rfl, s4, o4⟩, b4⟩
  have j4 : Below w3.heap.size w3 w4 := by (repeat (first | exact Below.refl _ _ | refine Below.alloc ?_ (by first | omega | (simp; done) | (simp; omega)) _ | refine Below.drew ?_ | refine Below.setCell ?_ (by first | omega | (simp; done) | (simp; omega)) _ | refine Below.trans ?_ (Below.mono (by assumption) (by first | omega | (simp; done) | (simp; omega)))))
  have t4 : Below w.heap.size w w4 := t3.trans (j4.mono t3.size)
  replace hs := hs.below j4
  replace hr := hr.below j4
  replace hw := hw.below j4
  replace q0 := below_cell j4 q0
  replace q1 := below_cell j4 q1
  replace q2 := below_cell j4 q2
  replace lB := Nat.lt_of_lt_of_le lB j4.size
  replace tA := tA.below j4
  replace eL := eL.below j4
  go_wp2_with fail
  go_at_call 23
  refine (truthN_eq a2 t p.sends.length c2 HtN _ tA ST).mono ?_
  rintro e w5 ⟨⟨g4, k4, rfl, tB4⟩, b5⟩
  have j5 : Below w4.heap.size w4 w5 := by (repeat (first | exact Below.refl _ _ | refine Below.alloc ?_ (by first | omega | (simp; done) | (simp; omega)) _ | refine Below.drew ?_ | refine Below.setCell ?_ (by first | omega | (simp; done) | (simp; omega)) _ | refine Below.trans ?_ (Below.mono (by assumption) (by first | omega | (simp; done) | (simp; omega)))))
  have t5 : Below w.heap.size w w5 := t4.trans (j5.mono t4.size)
  replace hs := hs.below j5
  replace hr := hr.below j5
  replace hw := hw.below j5
  replace q0 := below_cell j5 q0
  replace q1 := below_cell j5 q1
  replace q2 := below_cell j5 q2
  replace lB := Nat.lt_of_lt_of_le lB j5.size
  replace tA := tA.below j5
  replace eL := eL.below j5
  replace s4 := s4.below j5
  replace o4 := o4.below j5
  go_wp2_with fail
  go_at_call 22
  refine (playN_eq a4 c4 r4 d4 p _ g4 t p.sends.length k4 HtN 0 J p.sends.length HE1 HO1 HnJ s4 o4 SM tB4 ST).mono ?_
  rintro e w6 ⟨⟨e4, f4, rfl, i4⟩, b6⟩
  have j6 : Below w5.heap.size w5 w6 := by (repeat (first | exact Below.refl _ _ | refine Below.alloc ?_ (by first | omega | (simp; done) | (simp; omega)) _ | refine Below.drew ?_ | refine Below.setCell ?_ (by first | omega | (simp; done) | (simp; omega)) _ | refine Below.trans ?_ (Below.mono (by assumption) (by first | omega | (simp; done) | (simp; omega)))))
  have t6 : Below w.heap.size w w6 := t5.trans (j6.mono t5.size)
  replace hs := hs.below j6
  replace hr := hr.below j6
  replace hw := hw.below j6
  replace q0 := below_cell j6 q0
  replace q1 := below_cell j6 q1
  replace q2 := below_cell j6 q2
  replace lB := Nat.lt_of_lt_of_le lB j6.size
  replace tA := tA.below j6
  replace eL := eL.below j6
  replace s4 := s4.below j6
  replace o4 := o4.below j6
  replace tB4 := tB4.below j6
  clear s4 o4 tB4
  go_wp2_with fail
  go_at_call 21
  refine (post_eq a c ar cr p _ hs hr SM na).mono ?_
  rintro e w7 ⟨⟨a5, c5, r5, d5, rfl, s5, o5⟩, b7⟩
  have j7 : Below w6.heap.size w6 w7 := by (repeat (first | exact Below.refl _ _ | refine Below.alloc ?_ (by first | omega | (simp; done) | (simp; omega)) _ | refine Below.drew ?_ | refine Below.setCell ?_ (by first | omega | (simp; done) | (simp; omega)) _ | refine Below.trans ?_ (Below.mono (by assumption) (by first | omega | (simp; done) | (simp; omega)))))
  have t7 : Below w.heap.size w w7 := t6.trans (j7.mono t6.size)
  replace hs := hs.below j7
  replace hr := hr.below j7
  replace hw := hw.below j7
  replace q0 := below_cell j7 q0
  replace q1 := below_cell j7 q1
  replace q2 := below_cell j7 q2
  replace lB := Nat.lt_of_lt_of_le lB j7.size
  replace tA := tA.below j7
  replace eL := eL.below j7
  replace i4 := i4.below j7
  go_wp2_with fail
  go_at_call 32
  refine (spans_eq a5 c5 r5 d5 p _ 0 (spansF p p.sends.length) p.sends.length HE HS HnS s5 o5 SM).mono ?_
  rintro e w8 ⟨⟨e5, f5, rfl, i5⟩, b8⟩
  have j8 : Below w7.heap.size w7 w8 := by (repeat (first | exact Below.refl _ _ | refine Below.alloc ?_ (by first | omega | (simp; done) | (simp; omega)) _ | refine Below.drew ?_ | refine Below.setCell ?_ (by first | omega | (simp; done) | (simp; omega)) _ | refine Below.trans ?_ (Below.mono (by assumption) (by first | omega | (simp; done) | (simp; omega)))))
  have t8 : Below w.heap.size w w8 := t7.trans (j8.mono t7.size)
  replace hs := hs.below j8
  replace hr := hr.below j8
  replace hw := hw.below j8
  replace q0 := below_cell j8 q0
  replace q1 := below_cell j8 q1
  replace q2 := below_cell j8 q2
  replace lB := Nat.lt_of_lt_of_le lB j8.size
  replace tA := tA.below j8
  replace eL := eL.below j8
  replace i4 := i4.below j8
  replace s5 := s5.below j8
  replace o5 := o5.below j8
  clear s5 o5
  go_wp2_with fail
  go_at_call 21
  refine (post_eq a c ar cr p _ hs hr SM na).mono ?_
  rintro e w9 ⟨⟨a6, c6, r6, d6, rfl, s6, o6⟩, b9⟩
  have j9 : Below w8.heap.size w8 w9 := by (repeat (first | exact Below.refl _ _ | refine Below.alloc ?_ (by first | omega | (simp; done) | (simp; omega)) _ | refine Below.drew ?_ | refine Below.setCell ?_ (by first | omega | (simp; done) | (simp; omega)) _ | refine Below.trans ?_ (Below.mono (by assumption) (by first | omega | (simp; done) | (simp; omega)))))
  have t9 : Below w.heap.size w w9 := t8.trans (j9.mono t8.size)
  replace hs := hs.below j9
  replace hr := hr.below j9
  replace hw := hw.below j9
  replace q0 := below_cell j9 q0
  replace q1 := below_cell j9 q1
  replace q2 := below_cell j9 q2
  replace lB := Nat.lt_of_lt_of_le lB j9.size
  replace tA := tA.below j9
  replace eL := eL.below j9
  replace i4 := i4.below j9
  replace i5 := i5.below j9
  go_wp2_with fail
  go_at_call 33
  refine (sure_eq a6 c6 r6 d6 p _ 0 L nL HE HL HnL s6 o6 SM).mono ?_
  rintro e w10 ⟨⟨e6, f6, rfl, i6⟩, b10⟩
  have j10 : Below w9.heap.size w9 w10 := by (repeat (first | exact Below.refl _ _ | refine Below.alloc ?_ (by first | omega | (simp; done) | (simp; omega)) _ | refine Below.drew ?_ | refine Below.setCell ?_ (by first | omega | (simp; done) | (simp; omega)) _ | refine Below.trans ?_ (Below.mono (by assumption) (by first | omega | (simp; done) | (simp; omega)))))
  have t10 : Below w.heap.size w w10 := t9.trans (j10.mono t9.size)
  replace hs := hs.below j10
  replace hr := hr.below j10
  replace hw := hw.below j10
  replace q0 := below_cell j10 q0
  replace q1 := below_cell j10 q1
  replace q2 := below_cell j10 q2
  replace lB := Nat.lt_of_lt_of_le lB j10.size
  replace tA := tA.below j10
  replace eL := eL.below j10
  replace i4 := i4.below j10
  replace i5 := i5.below j10
  replace s6 := s6.below j10
  replace o6 := o6.below j10
  clear s6 o6
  go_wp2_with fail
  go_at_call 21
  refine (post_eq a c ar cr p _ hs hr SM na).mono ?_
  rintro e w11 ⟨⟨a7, c7, r7, d7, rfl, s7, o7⟩, b11⟩
  have j11 : Below w10.heap.size w10 w11 := by (repeat (first | exact Below.refl _ _ | refine Below.alloc ?_ (by first | omega | (simp; done) | (simp; omega)) _ | refine Below.drew ?_ | refine Below.setCell ?_ (by first | omega | (simp; done) | (simp; omega)) _ | refine Below.trans ?_ (Below.mono (by assumption) (by first | omega | (simp; done) | (simp; omega)))))
  have t11 : Below w.heap.size w w11 := t10.trans (j11.mono t10.size)
  replace hs := hs.below j11
  replace hr := hr.below j11
  replace hw := hw.below j11
  replace q0 := below_cell j11 q0
  replace q1 := below_cell j11 q1
  replace q2 := below_cell j11 q2
  replace lB := Nat.lt_of_lt_of_le lB j11.size
  replace tA := tA.below j11
  replace eL := eL.below j11
  replace i4 := i4.below j11
  replace i5 := i5.below j11
  replace i6 := i6.below j11
  go_wp2_with fail
  go_at_call 41
  refine (entsM_eq a3 l M c3 HM _ eL hM6).mono ?_
  rintro e w12 ⟨⟨u7, v7, rfl, eB7⟩, b12⟩
  have j12 : Below w11.heap.size w11 w12 := by (repeat (first | exact Below.refl _ _ | refine Below.alloc ?_ (by first | omega | (simp; done) | (simp; omega)) _ | refine Below.drew ?_ | refine Below.setCell ?_ (by first | omega | (simp; done) | (simp; omega)) _ | refine Below.trans ?_ (Below.mono (by assumption) (by first | omega | (simp; done) | (simp; omega)))))
  have t12 : Below w.heap.size w w12 := t11.trans (j12.mono t11.size)
  replace hs := hs.below j12
  replace hr := hr.below j12
  replace hw := hw.below j12
  replace q0 := below_cell j12 q0
  replace q1 := below_cell j12 q1
  replace q2 := below_cell j12 q2
  replace lB := Nat.lt_of_lt_of_le lB j12.size
  replace tA := tA.below j12
  replace eL := eL.below j12
  replace i4 := i4.below j12
  replace i5 := i5.below j12
  replace i6 := i6.below j12
  replace s7 := s7.below j12
  replace o7 := o7.below j12
  go_wp2_with fail
  go_at_call 40
  refine (oddM_eq a7 c7 r7 d7 p u7 l M v7 HM _ 0 [] 0 Hb Hodd Hon s7 o7 SM eB7 hM6).mono ?_
  rintro e w13 ⟨⟨e7, f7, rfl, i7⟩, b13⟩
  have j13 : Below w12.heap.size w12 w13 := by (repeat (first | exact Below.refl _ _ | refine Below.alloc ?_ (by first | omega | (simp; done) | (simp; omega)) _ | refine Below.drew ?_ | refine Below.setCell ?_ (by first | omega | (simp; done) | (simp; omega)) _ | refine Below.trans ?_ (Below.mono (by assumption) (by first | omega | (simp; done) | (simp; omega)))))
  have t13 : Below w.heap.size w w13 := t12.trans (j13.mono t12.size)
  replace hs := hs.below j13
  replace hr := hr.below j13
  replace hw := hw.below j13
  replace q0 := below_cell j13 q0
  replace q1 := below_cell j13 q1
  replace q2 := below_cell j13 q2
  replace lB := Nat.lt_of_lt_of_le lB j13.size
  replace tA := tA.below j13
  replace eL := eL.below j13
  replace i4 := i4.below j13
  replace i5 := i5.below j13
  replace i6 := i6.below j13
  replace s7 := s7.below j13
  replace o7 := o7.below j13
  replace eB7 := eB7.below j13
  clear s7 o7 eB7
  go_wp2_with fail
  go_at_call 21
  refine (post_eq a c ar cr p _ hs hr SM na).mono ?_
  rintro e w14 ⟨⟨a8, c8, r8, d8, rfl, s8, o8⟩, b14⟩
  have j14 : Below w13.heap.size w13 w14 := by (repeat (first | exact Below.refl _ _ | refine Below.alloc ?_ (by first | omega | (simp; done) | (simp; omega)) _ | refine Below.drew ?_ | refine Below.setCell ?_ (by first | omega | (simp; done) | (simp; omega)) _ | refine Below.trans ?_ (Below.mono (by assumption) (by first | omega | (simp; done) | (simp; omega)))))
  have t14 : Below w.heap.size w w14 := t13.trans (j14.mono t13.size)
  replace hs := hs.below j14
  replace hr := hr.below j14
  replace hw := hw.below j14
  replace q0 := below_cell j14 q0
  replace q1 := below_cell j14 q1
  replace q2 := below_cell j14 q2
  replace lB := Nat.lt_of_lt_of_le lB j14.size
  replace tA := tA.below j14
  replace eL := eL.below j14
  replace i4 := i4.below j14
  replace i5 := i5.below j14
  replace i6 := i6.below j14
  go_wp2_with fail
  go_at_call 41
  refine (entsM_eq a3 l M c3 HM _ eL hM6).mono ?_
  rintro e w15 ⟨⟨u8, v8, rfl, eB8⟩, b15⟩
  have j15 : Below w14.heap.size w14 w15 := by (repeat (first | exact Below.refl _ _ | refine Below.alloc ?_ (by first | omega | (simp; done) | (simp; omega)) _ | refine Below.drew ?_ | refine Below.setCell ?_ (by first | omega | (simp; done) | (simp; omega)) _ | refine Below.trans ?_ (Below.mono (by assumption) (by first | omega | (simp; done) | (simp; omega)))))
  have t15 : Below w.heap.size w w15 := t14.trans (j15.mono t14.size)
  replace hs := hs.below j15
  replace hr := hr.below j15
  replace hw := hw.below j15
  replace q0 := below_cell j15 q0
  replace q1 := below_cell j15 q1
  replace q2 := below_cell j15 q2
  replace lB := Nat.lt_of_lt_of_le lB j15.size
  replace tA := tA.below j15
  replace eL := eL.below j15
  replace i4 := i4.below j15
  replace i5 := i5.below j15
  replace i6 := i6.below j15
  replace s8 := s8.below j15
  replace o8 := o8.below j15
  go_wp2_with fail
  go_at_call 48
  refine (explM_eq a8 c8 r8 d8 p u8 l M v8 HM _ 0 X nX HXE HXO HXn s8 o8 SM eB8 hM6).mono ?_
  rintro e w16 ⟨⟨e8, f8, rfl, tX, nx8⟩, b16⟩
  have j16 : Below w15.heap.size w15 w16 := by (repeat (first | exact Below.refl _ _ | refine Below.alloc ?_ (by first | omega | (simp; done) | (simp; omega)) _ | refine Below.drew ?_ | refine Below.setCell ?_ (by first | omega | (simp; done) | (simp; omega)) _ | refine Below.trans ?_ (Below.mono (by assumption) (by first | omega | (simp; done) | (simp; omega)))))
  have t16 : Below w.heap.size w w16 := t15.trans (j16.mono t15.size)
  replace hs := hs.below j16
  replace hr := hr.below j16
  replace hw := hw.below j16
  replace q0 := below_cell j16 q0
  replace q1 := below_cell j16 q1
  replace q2 := below_cell j16 q2
  replace lB := Nat.lt_of_lt_of_le lB j16.size
  replace tA := tA.below j16
  replace eL := eL.below j16
  replace i4 := i4.below j16
  replace i5 := i5.below j16
  replace i6 := i6.below j16
  replace s8 := s8.below j16
  replace o8 := o8.below j16
  replace eB8 := eB8.below j16
  clear s8 o8 eB8
  go_wp2_with fail
  go_at_call 21
  refine (post_eq a c ar cr p _ hs hr SM na).mono ?_
  rintro e w17 ⟨⟨a9, c9, r9, d9, rfl, s9, o9⟩, b17⟩
  have j17 : Below w16.heap.size w16 w17 := by (repeat (first | exact Below.refl _ _ | refine Below.alloc ?_ (by first | omega | (simp; done) | (simp; omega)) _ | refine Below.drew ?_ | refine Below.setCell ?_ (by first | omega | (simp; done) | (simp; omega)) _ | refine Below.trans ?_ (Below.mono (by assumption) (by first | omega | (simp; done) | (simp; omega)))))
  have t17 : Below w.heap.size w w17 := t16.trans (j17.mono t16.size)
  replace hs := hs.below j17
  replace hr := hr.below j17
  replace hw := hw.below j17
  replace q0 := below_cell j17 q0
  replace q1 := below_cell j17 q1
  replace q2 := below_cell j17 q2
  replace lB := Nat.lt_of_lt_of_le lB j17.size
  replace tA := tA.below j17
  replace eL := eL.below j17
  replace i4 := i4.below j17
  replace i5 := i5.below j17
  replace i6 := i6.below j17
  replace tX := tX.below j17
  go_wp2_with fail
  go_at_call 23
  refine (truthN_eq a2 t p.sends.length c2 HtN _ tA ST).mono ?_
  rintro e w18 ⟨⟨g9, k9, rfl, tB9⟩, b18⟩
  have j18 : Below w17.heap.size w17 w18 := by (repeat (first | exact Below.refl _ _ | refine Below.alloc ?_ (by first | omega | (simp; done) | (simp; omega)) _ | refine Below.drew ?_ | refine Below.setCell ?_ (by first | omega | (simp; done) | (simp; omega)) _ | refine Below.trans ?_ (Below.mono (by assumption) (by first | omega | (simp; done) | (simp; omega)))))
  have t18 : Below w.heap.size w w18 := t17.trans (j18.mono t17.size)
  replace hs := hs.below j18
  replace hr := hr.below j18
  replace hw := hw.below j18
  replace q0 := below_cell j18 q0
  replace q1 := below_cell j18 q1
  replace q2 := below_cell j18 q2
  replace lB := Nat.lt_of_lt_of_le lB j18.size
  replace tA := tA.below j18
  replace eL := eL.below j18
  replace i4 := i4.below j18
  replace i5 := i5.below j18
  replace i6 := i6.below j18
  replace tX := tX.below j18
  replace s9 := s9.below j18
  replace o9 := o9.below j18
  go_wp2_with fail
  go_at_call 41
  refine (entsM_eq a3 l M c3 HM _ eL hM6).mono ?_
  rintro e w19 ⟨⟨u9, v9, rfl, eB9⟩, b19⟩
  have j19 : Below w18.heap.size w18 w19 := by (repeat (first | exact Below.refl _ _ | refine Below.alloc ?_ (by first | omega | (simp; done) | (simp; omega)) _ | refine Below.drew ?_ | refine Below.setCell ?_ (by first | omega | (simp; done) | (simp; omega)) _ | refine Below.trans ?_ (Below.mono (by assumption) (by first | omega | (simp; done) | (simp; omega)))))
  have t19 : Below w.heap.size w w19 := t18.trans (j19.mono t18.size)
  replace hs := hs.below j19
  replace hr := hr.below j19
  replace hw := hw.below j19
  replace q0 := below_cell j19 q0
  replace q1 := below_cell j19 q1
  replace q2 := below_cell j19 q2
  replace lB := Nat.lt_of_lt_of_le lB j19.size
  replace tA := tA.below j19
  replace eL := eL.below j19
  replace i4 := i4.below j19
  replace i5 := i5.below j19
  replace i6 := i6.below j19
  replace tX := tX.below j19
  replace s9 := s9.below j19
  replace o9 := o9.below j19
  replace tB9 := tB9.below j19
  go_wp2_with fail
  go_at_call 52
  refine (proveM_eq a9 c9 r9 d9 p u9 l M v9 HM _ g9 t p.sends.length k9 true HV1 HtN s9 o9 SM tB9 ST eB9 hM6).mono ?_
  rintro e w20 ⟨rfl, b20⟩
  have j20 : Below w19.heap.size w19 w20 := by (repeat (first | exact Below.refl _ _ | refine Below.alloc ?_ (by first | omega | (simp; done) | (simp; omega)) _ | refine Below.drew ?_ | refine Below.setCell ?_ (by first | omega | (simp; done) | (simp; omega)) _ | refine Below.trans ?_ (Below.mono (by assumption) (by first | omega | (simp; done) | (simp; omega)))))
  have t20 : Below w.heap.size w w20 := t19.trans (j20.mono t19.size)
  replace hs := hs.below j20
  replace hr := hr.below j20
  replace hw := hw.below j20
  replace q0 := below_cell j20 q0
  replace q1 := below_cell j20 q1
  replace q2 := below_cell j20 q2
  replace lB := Nat.lt_of_lt_of_le lB j20.size
  replace tA := tA.below j20
  replace eL := eL.below j20
  replace i4 := i4.below j20
  replace i5 := i5.below j20
  replace i6 := i6.below j20
  replace tX := tX.below j20
  replace s9 := s9.below j20
  replace o9 := o9.below j20
  replace tB9 := tB9.below j20
  replace eB9 := eB9.below j20
  clear s9 o9 tB9 eB9 tA
  go_wp2_with fail
  go_at_call 21
  refine (post_eq a c ar cr p _ hs hr SM na).mono ?_
  rintro e w21 ⟨⟨a10, c10, r10, d10, rfl, s10, o10⟩, b21⟩
  have j21 : Below w20.heap.size w20 w21 := by (repeat (first | exact Below.refl _ _ | refine Below.alloc ?_ (by first | omega | (simp; done) | (simp; omega)) _ | refine Below.drew ?_ | refine Below.setCell ?_ (by first | omega | (simp; done) | (simp; omega)) _ | refine Below.trans ?_ (Below.mono (by assumption) (by first | omega | (simp; done) | (simp; omega)))))
  have t21 : Below w.heap.size w w21 := t20.trans (j21.mono t20.size)
  replace hs := hs.below j21
  replace hr := hr.below j21
  replace hw := hw.below j21
  replace q0 := below_cell j21 q0
  replace q1 := below_cell j21 q1
  replace q2 := below_cell j21 q2
  replace lB := Nat.lt_of_lt_of_le lB j21.size
  replace eL := eL.below j21
  replace i4 := i4.below j21
  replace i5 := i5.below j21
  replace i6 := i6.below j21
  replace tX := tX.below j21
  go_wp2_with fail
  go_at_call 41
  refine (entsM_eq a3 l M c3 HM _ eL hM6).mono ?_
  rintro e w22 ⟨⟨u10, v10, rfl, eB10⟩, b22⟩
  have j22 : Below w21.heap.size w21 w22 := by (repeat (first | exact Below.refl _ _ | refine Below.alloc ?_ (by first | omega | (simp; done) | (simp; omega)) _ | refine Below.drew ?_ | refine Below.setCell ?_ (by first | omega | (simp; done) | (simp; omega)) _ | refine Below.trans ?_ (Below.mono (by assumption) (by first | omega | (simp; done) | (simp; omega)))))
  have t22 : Below w.heap.size w w22 := t21.trans (j22.mono t21.size)
  replace hs := hs.below j22
  replace hr := hr.below j22
  replace hw := hw.below j22
  replace q0 := below_cell j22 q0
  replace q1 := below_cell j22 q1
  replace q2 := below_cell j22 q2
  replace lB := Nat.lt_of_lt_of_le lB j22.size
  replace eL := eL.below j22
  replace i4 := i4.below j22
  replace i5 := i5.below j22
  replace i6 := i6.below j22
  replace tX := tX.below j22
  replace s10 := s10.below j22
  replace o10 := o10.below j22
  go_wp2_with fail
  go_at_call 52
  refine (proveM_eq a10 c10 r10 d10 p u10 l M v10 HM _ e8 X nX f8 true HV2 HXn s10 o10 SM tX SX eB10 hM6).mono ?_
  rintro e w23 ⟨rfl, b23⟩
  have j23 : Below w22.heap.size w22 w23 := by (repeat (first | exact Below.refl _ _ | refine Below.alloc ?_ (by first | omega | (simp; done) | (simp; omega)) _ | refine Below.drew ?_ | refine Below.setCell ?_ (by first | omega | (simp; done) | (simp; omega)) _ | refine Below.trans ?_ (Below.mono (by assumption) (by first | omega | (simp; done) | (simp; omega)))))
  have t23 : Below w.heap.size w w23 := t22.trans (j23.mono t22.size)
  replace hs := hs.below j23
  replace hr := hr.below j23
  replace hw := hw.below j23
  replace q0 := below_cell j23 q0
  replace q1 := below_cell j23 q1
  replace q2 := below_cell j23 q2
  replace lB := Nat.lt_of_lt_of_le lB j23.size
  replace eL := eL.below j23
  replace i4 := i4.below j23
  replace i5 := i5.below j23
  replace i6 := i6.below j23
  replace tX := tX.below j23
  replace s10 := s10.below j23
  replace o10 := o10.below j23
  replace eB10 := eB10.below j23
  clear s10 o10 eB10 tX eL
  clear hw HV1 HV2 HXE HXO HXn SX Hodd Hon Hb HM HE1 HO1 HJe Hl HPO ST HtN HTt
  go_wp2_with fail
  go_loopw [19, 20, 21] (fun x1 x2 u wr => ∃ k : Nat, k ≤ p.sends.length ∧ u = .int .i64 k ∧ x1 = .int .i64 (prevAt J k) ∧ x2 = .int .i64 (dlN p k) ∧ Below w23.heap.size w23 wr) (fun _ _ u _ => p.sends.length - (intOf u).toNat)
  case atStart => exact ⟨0, Nat.zero_le _, rfl, rfl, rfl, Below.refl _ _⟩
  case round =>
    obtain ⟨k, hk, rfl, rfl, rfl, hb6⟩ := hrel
    have z6 := hb6.size
    have q0' := below_cell hb6 q0
    have q2' := below_cell hb6 q2
    have lB' := cell_ltK q0'
    by_cases hkl : k < p.sends.length
    · have hkI : (k : Int) < (p.sends.length : Int) := by omega
      have hkJ : k < J.length := by rw [HnJ.out]; exact hkl
      have hkS : k < (spansF p p.sends.length).length := by rw [HnS.out]; exact hkl
      obtain ⟨g0, off0, rfl, hg0, s0⟩ := (hs.below hb6) k hkl
      obtain ⟨g1, off1, rfl, hg1, y0, y1, y2⟩ := (i4.below hb6) k hkJ
      obtain ⟨g2, off2, rfl, hg2, z0, z1⟩ := (i5.below hb6) k hkS
      rw [show (spansF p p.sends.length)[k] = spanAt p k by simp [spansF]] at z0 z1
      rw [show p.sends.getD k 0 = p.sends[k] by simp [hkl]] at s0
      have j1 := HJ.out.num k hkJ
      have j2 := HJ.out.prev k hkJ
      have j3 := HJ.out.lo k hkJ
      have j4 := HJ.out.hi k hkJ
      have j5 := HJ.out.dl k hkJ
      have j6 := HJ.out.sure k hkJ
      have hsb := (post_hours HE.out).s _ (List.getElem_mem hkl)
      have hpp := (post_hours HE.out).p
      have hdl : dlN p (k + 1) = max (dlN p k) (p.sends[k] + p.pat) := by rw [dlN]; simp [hkl]
      have hpr : prevAt J (k + 1) = J[k].at_ := by unfold prevAt; rw [if_neg (by omega)]; simp [hkJ]
      rw [hdl] at j5
      obtain ⟨⟨x0, x1, x2⟩, hx⟩ : ∃ x, J[k] = x := ⟨_, rfl⟩
      obtain ⟨⟨r0, r1⟩, hr1⟩ : ∃ x, spanAt p k = x := ⟨_, rfl⟩
      obtain ⟨sk, hsk⟩ : ∃ x, p.sends[k] = x := ⟨_, rfl⟩
      rw [hx] at y0 y1 y2 j1 j2 j3 j4 j5 j6 hpr
      rw [hr1] at z0 z1 j3 j4
      rw [hsk] at s0 j5 hsb hdl
      obtain ⟨B, hB⟩ : ∃ x, prevAt J k = x := ⟨_, rfl⟩
      obtain ⟨D, hD⟩ : ∃ x, dlN p k = x := ⟨_, rfl⟩
      rw [hB] at j2 ⊢
      rw [hD] at j5 hdl ⊢
      simp only at y0 y1 y2 z0 z1 j1 j2 j3 j4 j5 j6 hpr
      subst j1
      have hwv : IntKind.i64.wrap (sk + p.pat) = sk + p.pat := IntWalk.i64_in _ (by omega)
      have n1 : ¬ (x1 < B) := by omega
      have n2 : ¬ (x1 < r0) := by omega
      have n3 : ¬ (r1 < x1) := by omega
      obtain ⟨D2, hD2⟩ : ∃ x, dlN p (k + 1) = x := ⟨_, rfl⟩
      rw [hD2] at hdl
      rw [← hdl] at j5
      have hif : (if D < sk + p.pat then sk + p.pat else D) = D2 := by rw [hdl]; split <;> omega
      have n4 : ¬ (D2 < x1) := by omega
      have e1 : decide (x1 < B) = false := decide_eq_false n1
      have e2 : decide (x1 < r0) = false := decide_eq_false n2
      have e3 : decide (r1 < x1) = false := decide_eq_false n3
      have e4 : decide (D2 < x1) = false := decide_eq_false n4
      have Hsu := Lib.hid j6
      have Hdl := Lib.hid hD2
      have Hpr := Lib.hid hpr
      clear hx hr1 hsk hB hD hD2 j2 j3 j4 j5 j6 hdl hpr hkJ hkS hsb
      go_wp2
      (refine wp_region_ext 11 (by kernel_rfl) (by kernel_rfl) ?_; simp only [List.take_succ_cons, List.take_zero, List.drop_succ_cons, List.drop_zero]; (repeat (go_big_quiet_step ((fail)))); refine wpQuiet_nil ?_; rintro _ ⟨ex, rfl⟩; have hex := ex.below; have hexz := ex.size; (try simp at hexz); (try (have hy0 : w.heap.size < ex.to.heap.size := by omega)); (try (have hy1 : w.heap.size + 1 < ex.to.heap.size := by omega)); (try (have hy2 : w.heap.size + 2 < ex.to.heap.size := by omega)))
      try rw [hif]
      have b7 := ex.below
      obtain ⟨W7, hW7⟩ : ∃ x : World, x = ex.to := ⟨_, rfl⟩
      rw [← hW7] at b7 ⊢
      clear hW7 s0 hif
      have c7' := hb6.trans (b7.mono z6)
      have z7' := c7'.size
      replace y0 := below_cell b7 y0
      replace y1 := below_cell b7 y1
      replace y2 := below_cell b7 y2
      replace z0 := below_cell b7 z0
      replace z1 := below_cell b7 z1
      have lg1 := cell_ltK y0
      have lg2 := cell_ltK z0
      go_wp2
      (refine wp_region_ext 51 (by kernel_rfl) (by kernel_rfl) ?_; simp only [List.take_succ_cons, List.take_zero, List.drop_succ_cons, List.drop_zero]; (repeat (go_big_quiet_step ((fail)))); refine wpQuiet_nil ?_; rintro _ ⟨ex, rfl⟩; have hex := ex.below; have hexz := ex.size; (try simp at hexz); (try (have hy0 : w.heap.size < ex.to.heap.size := by omega)); (try (have hy1 : w.heap.size + 1 < ex.to.heap.size := by omega)); (try (have hy2 : w.heap.size + 2 < ex.to.heap.size := by omega)))
      have b8 := ex.below
      obtain ⟨W8, hW8⟩ : ∃ x : World, x = ex.to := ⟨_, rfl⟩
      rw [← hW8] at b8 ⊢
      clear hW8
      have c8' := c7'.trans (b8.mono z7')
      have z8' := c8'.size
      replace y1 := below_cell b8 y1
      replace y2 := below_cell b8 y2
      have lg3 := cell_ltK y1
      clear y0 z0 z1 b7 b8 n1 n2 n3 n4 e1 e2 e3 e4
      go_wp2
      go_loopw [22] (fun u wr => ∃ q : Nat, q ≤ nL ∧ u = .int .i64 q ∧ Below w23.heap.size w23 wr ∧ Below W8.heap.size W8 wr) (fun u _ => nL - (intOf u).toNat)
      case atStart => exact ⟨0, Nat.zero_le _, rfl, c8', Below.refl _ _⟩
      case round =>
        obtain ⟨q, hq, rfl, hb9, hb10⟩ := hrel
        have z9 := hb9.size
        have z10 := hb10.size
        have y2' := below_cell hb10 y2
        have ly := cell_ltK y2'
        by_cases hql : q < nL
        · have hqI : (q : Int) < (nL : Int) := by omega
          have hqL : q < L.length := by rw [HnL.out]; exact hql
          obtain ⟨g3, off3, rfl, hg3, v0⟩ := (i6.below hb9) q hqL
          have ha := Hat.out q hqL k
          replace v0 : wr.cell? ⟨g3, off3 + q, none⟩ = some (.int .i64 L[q]) := v0.trans (by simp [hqL])
          obtain ⟨lv, hlv⟩ : ∃ v, L[q] = v := ⟨_, rfl⟩
          rw [hlv] at v0 ha
          clear hlv
          by_cases hek : lv = (k : Int)
          · have hx2 : x2 = false := Hsu.out (ha hek)
            subst hek
            subst hx2
            clear ha
            go_wp2
            go_roundw
            case rel => exact ⟨q + 1, by omega, by go_num, hb9, hb10⟩
            case measure => simp [intOf]; omega
          · have hkk : (lv == (k : Int)) = false := by simpa using hek
            clear ha
            go_wp2
            go_roundw
            case rel => exact ⟨q + 1, by omega, by go_num, hb9, hb10⟩
            case measure => simp [intOf]; omega
        · have hqI : ¬ ((q : Int) < (nL : Int)) := by omega
          go_wp2
          go_roundw
          case rel => exact ⟨k + 1, by omega, by go_num, by rw [Hpr.out], by rw [Hdl.out], hb9⟩
          case measure => simp [intOf]; omega
    · have hkI : ¬ ((k : Int) < (p.sends.length : Int)) := by omega
      go_wp2_with fail
      go_at_call 19
      refine (awake_any _).mono ?_
      rintro e x3 ⟨rfl, b3⟩
      go_wp2_with fail
      go_ret
      exact ⟨rfl, t23.trans ((hb6.trans (b3.mono z6)).mono t23.size)⟩

theorem once_walk (a : Option Addr) (c : Nat) (ar : Option Addr) (cr : Nat) (p : Post) (aw : Option Addr) (ws : List Int) (cw : Nat) (y : Int) (w : World) (hs : IntsAt w a p.sends) (hr : RoutesAt w ar p.routes) (na : a = none → c = 0) (big : PostBig p) (hw : U16At w aw ws) (_ : aw = none → cw = 0) (lw0 : ws.length ≤ cw) (lw1 : cw ≤ maxLen) (hu : U16s ws) (hy : (Lit.int .u8 y).wf = true) :
    Calls Try.prog 16 #[.agg #[.slice a p.sends.length c, .slice ar p.routes.length cr, .int .i64 p.pat], .slice aw ws.length cw, .int .u8 y] w fun e w' => e = .returned (.bool true) ∧ Below w.heap.size w w' := by
  cases hT : readyB p
  · exact once_a1 a c ar cr p aw ws cw y w hs hr na big hw ‹_› lw0 lw1 hu hy hT
  · exact once_a2 a c ar cr p aw ws cw y w hs hr na big hw ‹_› lw0 lw1 hu hy hT
end Go.Proofs.Ytfclemnkcpadpaa
