/- TopWords: the ways that end early -/
import Derived.Test.YtaphfibfjepceaaFt
namespace Go.Proofs.Ytaphfibfjepceaa
set_option linter.unusedVariables false
set_option linter.unusedSimpArgs false
set_option linter.unnecessarySimpa false
open Go.RowKit Go.Flow Go.Shelf
theorem f2Thin_eq (R : Bool) (a : Option Addr) (ss : List ByteArray) (c : Nat) (w : World) (HR : Hid (thinS ss = R)) (hx : StrsAt w a ss) (hl : ss.length ≤ 9223372036854775807) :
    Calls Try.prog 4 #[.agg #[.slice a ss.length c], .string ⟨#[]⟩] w fun e w' => e = .returned (.bool R) ∧ Below w.heap.size w w' := by rw [← HR.out]; exact f2Thin a ss c w hx hl
theorem thinS_iff {ss : List ByteArray} (h : thinS ss = true) : ss.length ≤ 9 ∧ ∀ x ∈ ss, x.size ≤ 9 := by
  unfold thinS at h
  rw [Bool.and_eq_true, List.all_eq_true] at h
  exact ⟨by simpa using h.1, fun x hx => by simpa using h.2 x hx⟩
theorem f2Fault_eq (E : Int) (a : Option Addr) (ss : List ByteArray) (c : Nat) (w : World) (HE : Hid (faultS ss = E)) (HT : Hid (thinS ss = true)) (hx : StrsAt w a ss) :
    Calls Try.prog 5 #[.agg #[.slice a ss.length c]] w fun e w' => e = .returned (.int .i64 E) ∧ Below w.heap.size w w' := by
  rw [← HE.out]
  have h := thinS_iff HT.out
  exact f2Fault a ss c w hx (by omega) (fun x hm => by have := h.2 x hm; omega)
theorem f2IsText_eq (R : Bool) (a : Option Addr) (ss : List ByteArray) (c : Nat) (at0 : Option Addr) (text : List Int) (ct : Nat) (w : World) (HR : Hid (isTextB ss.length text = R)) (HT : Hid (thinS ss = true)) (ht : IntsAt w at0 text) (hl : text.length ≤ 5) :
    Calls Try.prog 6 #[.agg #[.slice a ss.length c], .slice at0 text.length ct] w fun e w' => e = .returned (.bool R) ∧ Below w.heap.size w w' := by
  rw [← HR.out]
  have h := thinS_iff HT.out
  exact f2IsText a ss c at0 text ct w (by omega) ht (by omega)
theorem rFault_eq' (st rate keeps : Int) (ds : List Dis) (ad : Option Addr) (cd : Nat) (E : Int) (w : World) (HE : Hid (accErr ⟨st, rate, keeps, ds⟩ = E)) (HT : Hid (thinB ds = true)) (hd : DisAt w ad ds) :
    Calls Try.prog 8 #[.agg #[.int .i64 st, .int .i64 rate, .int .i64 keeps, .slice ad ds.length cd]] w fun e w' => e = .returned (.int .i64 E) ∧ Below w.heap.size w w' := by
  rw [← HE.out]
  exact rFault_any st rate keeps ds ad cd w hd (thin_small HT.out)
set_option maxRecDepth 100000 in
set_option maxHeartbeats 8000000 in
theorem topw_1 (ac : Option Addr) (ss : List ByteArray) (cc : Nat) (at0 : Option Addr) (text : List Int) (ct : Nat) (aw : Option Addr) (ws : List Int) (cw : Nat) (er : Int) (st rate keeps : Int) (ds : List Dis) (ad : Option Addr) (cd : Nat) (wh : Int) (w : World) (hx : StrsAt w ac ss) (hsl : ss.length ≤ 9223372036854775807) (ht : IntsAt w at0 text) (hd : DisAt w ad ds) (big : AccBig ds) (h1 : thinS ss = false) :
    Calls Try.prog 3 #[.agg #[.slice ac ss.length cc], .slice at0 text.length ct, .slice aw ws.length cw, .int .u8 er, .agg #[.int .i64 st, .int .i64 rate, .int .i64 keeps, .slice ad ds.length cd], .int .u8 wh] w fun e w' => e = .returned (.bool true) ∧ Below w.heap.size w w' := by
  have HB := Lib.hid big
  have H1 := Lib.hid h1
  clear big h1
  go_enter Try.func3, Try.ntmps3
  go_wp2_with fail
  go_at_call 4
  refine (f2Thin_eq false ac ss cc _ H1 (hx.below (by (repeat (first | exact Below.refl _ _ | refine Below.alloc ?_ (by first | omega | (simp; done) | (simp; omega)) _ | refine Below.drew ?_ | refine Below.setCell ?_ (by first | omega | (simp; done) | (simp; omega)) _ | refine Below.trans ?_ (Below.mono (by assumption) (by first | omega | (simp; done) | (simp; omega))))))) hsl).mono ?_
  rintro e w1 ⟨rfl, b1⟩
  have t1 : Below w.heap.size w w1 := by (repeat (first | exact Below.refl _ _ | refine Below.alloc ?_ (by first | omega | (simp; done) | (simp; omega)) _ | refine Below.drew ?_ | refine Below.setCell ?_ (by first | omega | (simp; done) | (simp; omega)) _ | refine Below.trans ?_ (Below.mono (by assumption) (by first | omega | (simp; done) | (simp; omega)))))
  replace hx := hx.below t1
  replace ht := ht.below t1
  replace hd := hd.below t1
  have CB := ((Cells.new w #[.slice ac ss.length cc] 24).alloc (.cells #[.int .i64 st, .int .i64 rate, .int .i64 keeps, .slice ad ds.length cd] 29)).below b1
  have CA := (Cells.new' (w.alloc (.cells #[.slice ac ss.length cc] 24)) #[.int .i64 st, .int .i64 rate, .int .i64 keeps, .slice ad ds.length cd] 29 (w.heap.size + 1) (by simp)).below b1
  have q0 := CB.cell 0
  have p0 := CA.cell 0
  have p1 := CA.cell 1
  have p2 := CA.cell 2
  have p3 := CA.cell 3
  simp at q0 p0 p1 p2 p3
  have lq := CB.lt
  have lp := CA.lt
  clear CB CA
  go_wp2_with fail
  go_at_call 9
  refine (worded_any _).mono ?_
  rintro e w2 ⟨rfl, b2⟩
  have j2 : Below w1.heap.size w1 w2 := by (repeat (first | exact Below.refl _ _ | refine Below.alloc ?_ (by first | omega | (simp; done) | (simp; omega)) _ | refine Below.drew ?_ | refine Below.setCell ?_ (by first | omega | (simp; done) | (simp; omega)) _ | refine Below.trans ?_ (Below.mono (by assumption) (by first | omega | (simp; done) | (simp; omega)))))
  have t2 : Below w.heap.size w w2 := t1.trans (j2.mono t1.size)
  replace hx := hx.below j2
  replace ht := ht.below j2
  replace hd := hd.below j2
  replace q0 := below_cell j2 q0
  replace p0 := below_cell j2 p0
  replace p1 := below_cell j2 p1
  replace p2 := below_cell j2 p2
  replace p3 := below_cell j2 p3
  replace lq := Nat.lt_of_lt_of_le lq j2.size
  replace lp := Nat.lt_of_lt_of_le lp j2.size
  go_wp2_with fail
  go_ret
  exact ⟨rfl, t2⟩
set_option maxRecDepth 100000 in
set_option maxHeartbeats 8000000 in
theorem topw_2 (ac : Option Addr) (ss : List ByteArray) (cc : Nat) (at0 : Option Addr) (text : List Int) (ct : Nat) (aw : Option Addr) (ws : List Int) (cw : Nat) (er : Int) (st rate keeps : Int) (ds : List Dis) (ad : Option Addr) (cd : Nat) (wh : Int) (w : World) (hx : StrsAt w ac ss) (hsl : ss.length ≤ 9223372036854775807) (ht : IntsAt w at0 text) (hd : DisAt w ad ds) (big : AccBig ds) (h1 : thinS ss = true) (h2 : faultS ss ≠ 0) :
    Calls Try.prog 3 #[.agg #[.slice ac ss.length cc], .slice at0 text.length ct, .slice aw ws.length cw, .int .u8 er, .agg #[.int .i64 st, .int .i64 rate, .int .i64 keeps, .slice ad ds.length cd], .int .u8 wh] w fun e w' => e = .returned (.bool true) ∧ Below w.heap.size w w' := by
  have HB := Lib.hid big
  have H1 := Lib.hid h1
  obtain ⟨E, hE⟩ : ∃ E, faultS ss = E := ⟨_, rfl⟩
  rw [hE] at h2
  have H2 := Lib.hid hE
  have f2 : (E != 0) = true := by simpa using h2
  clear big h1 hE h2
  go_enter Try.func3, Try.ntmps3
  go_wp2_with fail
  go_at_call 4
  refine (f2Thin_eq true ac ss cc _ H1 (hx.below (by (repeat (first | exact Below.refl _ _ | refine Below.alloc ?_ (by first | omega | (simp; done) | (simp; omega)) _ | refine Below.drew ?_ | refine Below.setCell ?_ (by first | omega | (simp; done) | (simp; omega)) _ | refine Below.trans ?_ (Below.mono (by assumption) (by first | omega | (simp; done) | (simp; omega))))))) hsl).mono ?_
  rintro e w1 ⟨rfl, b1⟩
  have t1 : Below w.heap.size w w1 := by (repeat (first | exact Below.refl _ _ | refine Below.alloc ?_ (by first | omega | (simp; done) | (simp; omega)) _ | refine Below.drew ?_ | refine Below.setCell ?_ (by first | omega | (simp; done) | (simp; omega)) _ | refine Below.trans ?_ (Below.mono (by assumption) (by first | omega | (simp; done) | (simp; omega)))))
  replace hx := hx.below t1
  replace ht := ht.below t1
  replace hd := hd.below t1
  have CB := ((Cells.new w #[.slice ac ss.length cc] 24).alloc (.cells #[.int .i64 st, .int .i64 rate, .int .i64 keeps, .slice ad ds.length cd] 29)).below b1
  have CA := (Cells.new' (w.alloc (.cells #[.slice ac ss.length cc] 24)) #[.int .i64 st, .int .i64 rate, .int .i64 keeps, .slice ad ds.length cd] 29 (w.heap.size + 1) (by simp)).below b1
  have q0 := CB.cell 0
  have p0 := CA.cell 0
  have p1 := CA.cell 1
  have p2 := CA.cell 2
  have p3 := CA.cell 3
  simp at q0 p0 p1 p2 p3
  have lq := CB.lt
  have lp := CA.lt
  clear CB CA
  go_wp2_with fail
  go_at_call 5
  refine (f2Fault_eq E ac ss cc _ H2 H1 hx).mono ?_
  rintro e w2 ⟨rfl, b2⟩
  have j2 : Below w1.heap.size w1 w2 := by (repeat (first | exact Below.refl _ _ | refine Below.alloc ?_ (by first | omega | (simp; done) | (simp; omega)) _ | refine Below.drew ?_ | refine Below.setCell ?_ (by first | omega | (simp; done) | (simp; omega)) _ | refine Below.trans ?_ (Below.mono (by assumption) (by first | omega | (simp; done) | (simp; omega)))))
  have t2 : Below w.heap.size w w2 := t1.trans (j2.mono t1.size)
  replace hx := hx.below j2
  replace ht := ht.below j2
  replace hd := hd.below j2
  replace q0 := below_cell j2 q0
  replace p0 := below_cell j2 p0
  replace p1 := below_cell j2 p1
  replace p2 := below_cell j2 p2
  replace p3 := below_cell j2 p3
  replace lq := Nat.lt_of_lt_of_le lq j2.size
  replace lp := Nat.lt_of_lt_of_le lp j2.size
  go_wp2_with fail
  go_at_call 9
  refine (worded_any _).mono ?_
  rintro e w3 ⟨rfl, b3⟩
  have j3 : Below w2.heap.size w2 w3 := by (repeat (first | exact Below.refl _ _ | refine Below.alloc ?_ (by first | omega | (simp; done) | (simp; omega)) _ | refine Below.drew ?_ | refine Below.setCell ?_ (by first | omega | (simp; done) | (simp; omega)) _ | refine Below.trans ?_ (Below.mono (by assumption) (by first | omega | (simp; done) | (simp; omega)))))
  have t3 : Below w.heap.size w w3 := t2.trans (j3.mono t2.size)
  replace hx := hx.below j3
  replace ht := ht.below j3
  replace hd := hd.below j3
  replace q0 := below_cell j3 q0
  replace p0 := below_cell j3 p0
  replace p1 := below_cell j3 p1
  replace p2 := below_cell j3 p2
  replace p3 := below_cell j3 p3
  replace lq := Nat.lt_of_lt_of_le lq j3.size
  replace lp := Nat.lt_of_lt_of_le lp j3.size
  go_wp2_with fail
  go_ret
  exact ⟨rfl, t3⟩
set_option maxRecDepth 100000 in
set_option maxHeartbeats 8000000 in
theorem topw_3 (ac : Option Addr) (ss : List ByteArray) (cc : Nat) (at0 : Option Addr) (text : List Int) (ct : Nat) (aw : Option Addr) (ws : List Int) (cw : Nat) (er : Int) (st rate keeps : Int) (ds : List Dis) (ad : Option Addr) (cd : Nat) (wh : Int) (w : World) (hx : StrsAt w ac ss) (hsl : ss.length ≤ 9223372036854775807) (ht : IntsAt w at0 text) (hd : DisAt w ad ds) (big : AccBig ds) (h1 : thinS ss = true) (h2 : faultS ss = 0) (h3 : text.length = 0) :
    Calls Try.prog 3 #[.agg #[.slice ac ss.length cc], .slice at0 text.length ct, .slice aw ws.length cw, .int .u8 er, .agg #[.int .i64 st, .int .i64 rate, .int .i64 keeps, .slice ad ds.length cd], .int .u8 wh] w fun e w' => e = .returned (.bool true) ∧ Below w.heap.size w w' := by
  have HB := Lib.hid big
  have H1 := Lib.hid h1
  have H2 := Lib.hid h2
  have f3 : ((text.length : Int) == 0) = true := by rw [h3]; rfl
  clear big h1 h2 h3
  go_enter Try.func3, Try.ntmps3
  go_wp2_with fail
  go_at_call 4
  refine (f2Thin_eq true ac ss cc _ H1 (hx.below (by (repeat (first | exact Below.refl _ _ | refine Below.alloc ?_ (by first | omega | (simp; done) | (simp; omega)) _ | refine Below.drew ?_ | refine Below.setCell ?_ (by first | omega | (simp; done) | (simp; omega)) _ | refine Below.trans ?_ (Below.mono (by assumption) (by first | omega | (simp; done) | (simp; omega))))))) hsl).mono ?_
  rintro e w1 ⟨rfl, b1⟩
  have t1 : Below w.heap.size w w1 := by (repeat (first | exact Below.refl _ _ | refine Below.alloc ?_ (by first | omega | (simp; done) | (simp; omega)) _ | refine Below.drew ?_ | refine Below.setCell ?_ (by first | omega | (simp; done) | (simp; omega)) _ | refine Below.trans ?_ (Below.mono (by assumption) (by first | omega | (simp; done) | (simp; omega)))))
  replace hx := hx.below t1
  replace ht := ht.below t1
  replace hd := hd.below t1
  have CB := ((Cells.new w #[.slice ac ss.length cc] 24).alloc (.cells #[.int .i64 st, .int .i64 rate, .int .i64 keeps, .slice ad ds.length cd] 29)).below b1
  have CA := (Cells.new' (w.alloc (.cells #[.slice ac ss.length cc] 24)) #[.int .i64 st, .int .i64 rate, .int .i64 keeps, .slice ad ds.length cd] 29 (w.heap.size + 1) (by simp)).below b1
  have q0 := CB.cell 0
  have p0 := CA.cell 0
  have p1 := CA.cell 1
  have p2 := CA.cell 2
  have p3 := CA.cell 3
  simp at q0 p0 p1 p2 p3
  have lq := CB.lt
  have lp := CA.lt
  clear CB CA
  go_wp2_with fail
  go_at_call 5
  refine (f2Fault_eq 0 ac ss cc _ H2 H1 hx).mono ?_
  rintro e w2 ⟨rfl, b2⟩
  have j2 : Below w1.heap.size w1 w2 := by (repeat (first | exact Below.refl _ _ | refine Below.alloc ?_ (by first | omega | (simp; done) | (simp; omega)) _ | refine Below.drew ?_ | refine Below.setCell ?_ (by first | omega | (simp; done) | (simp; omega)) _ | refine Below.trans ?_ (Below.mono (by assumption) (by first | omega | (simp; done) | (simp; omega)))))
  have t2 : Below w.heap.size w w2 := t1.trans (j2.mono t1.size)
  replace hx := hx.below j2
  replace ht := ht.below j2
  replace hd := hd.below j2
  replace q0 := below_cell j2 q0
  replace p0 := below_cell j2 p0
  replace p1 := below_cell j2 p1
  replace p2 := below_cell j2 p2
  replace p3 := below_cell j2 p3
  replace lq := Nat.lt_of_lt_of_le lq j2.size
  replace lp := Nat.lt_of_lt_of_le lp j2.size
  go_wp2_with fail
  go_at_call 9
  refine (worded_any _).mono ?_
  rintro e w3 ⟨rfl, b3⟩
  have j3 : Below w2.heap.size w2 w3 := by (repeat (first | exact Below.refl _ _ | refine Below.alloc ?_ (by first | omega | (simp; done) | (simp; omega)) _ | refine Below.drew ?_ | refine Below.setCell ?_ (by first | omega | (simp; done) | (simp; omega)) _ | refine Below.trans ?_ (Below.mono (by assumption) (by first | omega | (simp; done) | (simp; omega)))))
  have t3 : Below w.heap.size w w3 := t2.trans (j3.mono t2.size)
  replace hx := hx.below j3
  replace ht := ht.below j3
  replace hd := hd.below j3
  replace q0 := below_cell j3 q0
  replace p0 := below_cell j3 p0
  replace p1 := below_cell j3 p1
  replace p2 := below_cell j3 p2
  replace p3 := below_cell j3 p3
  replace lq := Nat.lt_of_lt_of_le lq j3.size
  replace lp := Nat.lt_of_lt_of_le lp j3.size
  go_wp2_with fail
  go_ret
  exact ⟨rfl, t3⟩
set_option maxRecDepth 100000 in
set_option maxHeartbeats 8000000 in
theorem topw_4 (ac : Option Addr) (ss : List ByteArray) (cc : Nat) (at0 : Option Addr) (text : List Int) (ct : Nat) (aw : Option Addr) (ws : List Int) (cw : Nat) (er : Int) (st rate keeps : Int) (ds : List Dis) (ad : Option Addr) (cd : Nat) (wh : Int) (w : World) (hx : StrsAt w ac ss) (hsl : ss.length ≤ 9223372036854775807) (ht : IntsAt w at0 text) (hd : DisAt w ad ds) (big : AccBig ds) (h1 : thinS ss = true) (h2 : faultS ss = 0) (h3 : text.length ≠ 0) (h4 : ¬ text.length ≤ 5) :
    Calls Try.prog 3 #[.agg #[.slice ac ss.length cc], .slice at0 text.length ct, .slice aw ws.length cw, .int .u8 er, .agg #[.int .i64 st, .int .i64 rate, .int .i64 keeps, .slice ad ds.length cd], .int .u8 wh] w fun e w' => e = .returned (.bool true) ∧ Below w.heap.size w w' := by
  have HB := Lib.hid big
  have H1 := Lib.hid h1
  have H2 := Lib.hid h2
  have f3 : ((text.length : Int) == 0) = false := by rw [beq_eq_false_iff_ne]; omega
  have f4 : (5 : Int) < (text.length : Int) := by omega
  clear big h1 h2 h3 h4
  go_enter Try.func3, Try.ntmps3
  go_wp2_with fail
  go_at_call 4
  refine (f2Thin_eq true ac ss cc _ H1 (hx.below (by (repeat (first | exact Below.refl _ _ | refine Below.alloc ?_ (by first | omega | (simp; done) | (simp; omega)) _ | refine Below.drew ?_ | refine Below.setCell ?_ (by first | omega | (simp; done) | (simp; omega)) _ | refine Below.trans ?_ (Below.mono (by assumption) (by first | omega | (simp; done) | (simp; omega))))))) hsl).mono ?_
  rintro e w1 ⟨rfl, b1⟩
  have t1 : Below w.heap.size w w1 := by (repeat (first | exact Below.refl _ _ | refine Below.alloc ?_ (by first | omega | (simp; done) | (simp; omega)) _ | refine Below.drew ?_ | refine Below.setCell ?_ (by first | omega | (simp; done) | (simp; omega)) _ | refine Below.trans ?_ (Below.mono (by assumption) (by first | omega | (simp; done) | (simp; omega)))))
  replace hx := hx.below t1
  replace ht := ht.below t1
  replace hd := hd.below t1
  have CB := ((Cells.new w #[.slice ac ss.length cc] 24).alloc (.cells #[.int .i64 st, .int .i64 rate, .int .i64 keeps, .slice ad ds.length cd] 29)).below b1
  have CA := (Cells.new' (w.alloc (.cells #[.slice ac ss.length cc] 24)) #[.int .i64 st, .int .i64 rate, .int .i64 keeps, .slice ad ds.length cd] 29 (w.heap.size + 1) (by simp)).below b1
  have q0 := CB.cell 0
  have p0 := CA.cell 0
  have p1 := CA.cell 1
  have p2 := CA.cell 2
  have p3 := CA.cell 3
  simp at q0 p0 p1 p2 p3
  have lq := CB.lt
  have lp := CA.lt
  clear CB CA
  go_wp2_with fail
  go_at_call 5
  refine (f2Fault_eq 0 ac ss cc _ H2 H1 hx).mono ?_
  rintro e w2 ⟨rfl, b2⟩
  have j2 : Below w1.heap.size w1 w2 := by (repeat (first | exact Below.refl _ _ | refine Below.alloc ?_ (by first | omega | (simp; done) | (simp; omega)) _ | refine Below.drew ?_ | refine Below.setCell ?_ (by first | omega | (simp; done) | (simp; omega)) _ | refine Below.trans ?_ (Below.mono (by assumption) (by first | omega | (simp; done) | (simp; omega)))))
  have t2 : Below w.heap.size w w2 := t1.trans (j2.mono t1.size)
  replace hx := hx.below j2
  replace ht := ht.below j2
  replace hd := hd.below j2
  replace q0 := below_cell j2 q0
  replace p0 := below_cell j2 p0
  replace p1 := below_cell j2 p1
  replace p2 := below_cell j2 p2
  replace p3 := below_cell j2 p3
  replace lq := Nat.lt_of_lt_of_le lq j2.size
  replace lp := Nat.lt_of_lt_of_le lp j2.size
  go_wp2_with fail
  go_at_call 9
  refine (worded_any _).mono ?_
  rintro e w3 ⟨rfl, b3⟩
  have j3 : Below w2.heap.size w2 w3 := by (repeat (first | exact Below.refl _ _ | refine Below.alloc ?_ (by first | omega | (simp; done) | (simp; omega)) _ | refine Below.drew ?_ | refine Below.setCell ?_ (by first | omega | (simp; done) | (simp; omega)) _ | refine Below.trans ?_ (Below.mono (by assumption) (by first | omega | (simp; done) | (simp; omega)))))
  have t3 : Below w.heap.size w w3 := t2.trans (j3.mono t2.size)
  replace hx := hx.below j3
  replace ht := ht.below j3
  replace hd := hd.below j3
  replace q0 := below_cell j3 q0
  replace p0 := below_cell j3 p0
  replace p1 := below_cell j3 p1
  replace p2 := below_cell j3 p2
  replace p3 := below_cell j3 p3
  replace lq := Nat.lt_of_lt_of_le lq j3.size
  replace lp := Nat.lt_of_lt_of_le lp j3.size
  go_wp2_with fail
  go_ret
  exact ⟨rfl, t3⟩
set_option maxRecDepth 100000 in
set_option maxHeartbeats 8000000 in
theorem topw_5 (ac : Option Addr) (ss : List ByteArray) (cc : Nat) (at0 : Option Addr) (text : List Int) (ct : Nat) (aw : Option Addr) (ws : List Int) (cw : Nat) (er : Int) (st rate keeps : Int) (ds : List Dis) (ad : Option Addr) (cd : Nat) (wh : Int) (w : World) (hx : StrsAt w ac ss) (hsl : ss.length ≤ 9223372036854775807) (ht : IntsAt w at0 text) (hd : DisAt w ad ds) (big : AccBig ds) (h1 : thinS ss = true) (h2 : faultS ss = 0) (h3 : text.length ≠ 0) (h4 : text.length ≤ 5) (h5 : isTextB ss.length text = false) :
    Calls Try.prog 3 #[.agg #[.slice ac ss.length cc], .slice at0 text.length ct, .slice aw ws.length cw, .int .u8 er, .agg #[.int .i64 st, .int .i64 rate, .int .i64 keeps, .slice ad ds.length cd], .int .u8 wh] w fun e w' => e = .returned (.bool true) ∧ Below w.heap.size w w' := by
  have HB := Lib.hid big
  have H1 := Lib.hid h1
  have H2 := Lib.hid h2
  have f3 : ((text.length : Int) == 0) = false := by rw [beq_eq_false_iff_ne]; omega
  have f4 : ¬ (5 : Int) < (text.length : Int) := by omega
  have H5 := Lib.hid h5
  clear big h1 h2 h3 h5
  go_enter Try.func3, Try.ntmps3
  go_wp2_with fail
  go_at_call 4
  refine (f2Thin_eq true ac ss cc _ H1 (hx.below (by (repeat (first | exact Below.refl _ _ | refine Below.alloc ?_ (by first | omega | (simp; done) | (simp; omega)) _ | refine Below.drew ?_ | refine Below.setCell ?_ (by first | omega | (simp; done) | (simp; omega)) _ | refine Below.trans ?_ (Below.mono (by assumption) (by first | omega | (simp; done) | (simp; omega))))))) hsl).mono ?_
  rintro e w1 ⟨rfl, b1⟩
  have t1 : Below w.heap.size w w1 := by (repeat (first | exact Below.refl _ _ | refine Below.alloc ?_ (by first | omega | (simp; done) | (simp; omega)) _ | refine Below.drew ?_ | refine Below.setCell ?_ (by first | omega | (simp; done) | (simp; omega)) _ | refine Below.trans ?_ (Below.mono (by assumption) (by first | omega | (simp; done) | (simp; omega)))))
  replace hx := hx.below t1
  replace ht := ht.below t1
  replace hd := hd.below t1
  have CB := ((Cells.new w #[.slice ac ss.length cc] 24).alloc (.cells #[.int .i64 st, .int .i64 rate, .int .i64 keeps, .slice ad ds.length cd] 29)).below b1
  have CA := (Cells.new' (w.alloc (.cells #[.slice ac ss.length cc] 24)) #[.int .i64 st, .int .i64 rate, .int .i64 keeps, .slice ad ds.length cd] 29 (w.heap.size + 1) (by simp)).below b1
  have q0 := CB.cell 0
  have p0 := CA.cell 0
  have p1 := CA.cell 1
  have p2 := CA.cell 2
  have p3 := CA.cell 3
  simp at q0 p0 p1 p2 p3
  have lq := CB.lt
  have lp := CA.lt
  clear CB CA
  go_wp2_with fail
  go_at_call 5
  refine (f2Fault_eq 0 ac ss cc _ H2 H1 hx).mono ?_
  rintro e w2 ⟨rfl, b2⟩
  have j2 : Below w1.heap.size w1 w2 := by (repeat (first | exact Below.refl _ _ | refine Below.alloc ?_ (by first | omega | (simp; done) | (simp; omega)) _ | refine Below.drew ?_ | refine Below.setCell ?_ (by first | omega | (simp; done) | (simp; omega)) _ | refine Below.trans ?_ (Below.mono (by assumption) (by first | omega | (simp; done) | (simp; omega)))))
  have t2 : Below w.heap.size w w2 := t1.trans (j2.mono t1.size)
  replace hx := hx.below j2
  replace ht := ht.below j2
  replace hd := hd.below j2
  replace q0 := below_cell j2 q0
  replace p0 := below_cell j2 p0
  replace p1 := below_cell j2 p1
  replace p2 := below_cell j2 p2
  replace p3 := below_cell j2 p3
  replace lq := Nat.lt_of_lt_of_le lq j2.size
  replace lp := Nat.lt_of_lt_of_le lp j2.size
  go_wp2_with fail
  go_at_call 6
  refine (f2IsText_eq false ac ss cc at0 text ct _ H5 H1 ht h4).mono ?_
  rintro e w3 ⟨rfl, b3⟩
  have j3 : Below w2.heap.size w2 w3 := by (repeat (first | exact Below.refl _ _ | refine Below.alloc ?_ (by first | omega | (simp; done) | (simp; omega)) _ | refine Below.drew ?_ | refine Below.setCell ?_ (by first | omega | (simp; done) | (simp; omega)) _ | refine Below.trans ?_ (Below.mono (by assumption) (by first | omega | (simp; done) | (simp; omega)))))
  have t3 : Below w.heap.size w w3 := t2.trans (j3.mono t2.size)
  replace hx := hx.below j3
  replace ht := ht.below j3
  replace hd := hd.below j3
  replace q0 := below_cell j3 q0
  replace p0 := below_cell j3 p0
  replace p1 := below_cell j3 p1
  replace p2 := below_cell j3 p2
  replace p3 := below_cell j3 p3
  replace lq := Nat.lt_of_lt_of_le lq j3.size
  replace lp := Nat.lt_of_lt_of_le lp j3.size
  go_wp2_with fail
  go_at_call 9
  refine (worded_any _).mono ?_
  rintro e w4 ⟨rfl, b4⟩
  have j4 : Below w3.heap.size w3 w4 := by (repeat (first | exact Below.refl _ _ | refine Below.alloc ?_ (by first | omega | (simp; done) | (simp; omega)) _ | refine Below.drew ?_ | refine Below.setCell ?_ (by first | omega | (simp; done) | (simp; omega)) _ | refine Below.trans ?_ (Below.mono (by assumption) (by first | omega | (simp; done) | (simp; omega)))))
  have t4 : Below w.heap.size w w4 := t3.trans (j4.mono t3.size)
  replace hx := hx.below j4
  replace ht := ht.below j4
  replace hd := hd.below j4
  replace q0 := below_cell j4 q0
  replace p0 := below_cell j4 p0
  replace p1 := below_cell j4 p1
  replace p2 := below_cell j4 p2
  replace p3 := below_cell j4 p3
  replace lq := Nat.lt_of_lt_of_le lq j4.size
  replace lp := Nat.lt_of_lt_of_le lp j4.size
  go_wp2_with fail
  go_ret
  exact ⟨rfl, t4⟩
set_option maxRecDepth 100000 in
set_option maxHeartbeats 8000000 in
theorem topw_6 (ac : Option Addr) (ss : List ByteArray) (cc : Nat) (at0 : Option Addr) (text : List Int) (ct : Nat) (aw : Option Addr) (ws : List Int) (cw : Nat) (er : Int) (st rate keeps : Int) (ds : List Dis) (ad : Option Addr) (cd : Nat) (wh : Int) (w : World) (hx : StrsAt w ac ss) (hsl : ss.length ≤ 9223372036854775807) (ht : IntsAt w at0 text) (hd : DisAt w ad ds) (big : AccBig ds) (h1 : thinS ss = true) (h2 : faultS ss = 0) (h3 : text.length ≠ 0) (h4 : text.length ≤ 5) (h5 : isTextB ss.length text = true) (h6 : thinB ds = false) :
    Calls Try.prog 3 #[.agg #[.slice ac ss.length cc], .slice at0 text.length ct, .slice aw ws.length cw, .int .u8 er, .agg #[.int .i64 st, .int .i64 rate, .int .i64 keeps, .slice ad ds.length cd], .int .u8 wh] w fun e w' => e = .returned (.bool true) ∧ Below w.heap.size w w' := by
  have HB := Lib.hid big
  have H1 := Lib.hid h1
  have H2 := Lib.hid h2
  have f3 : ((text.length : Int) == 0) = false := by rw [beq_eq_false_iff_ne]; omega
  have f4 : ¬ (5 : Int) < (text.length : Int) := by omega
  have H5 := Lib.hid h5
  have H6 := Lib.hid h6
  clear big h1 h2 h3 h5 h6
  go_enter Try.func3, Try.ntmps3
  go_wp2_with fail
  go_at_call 4
  refine (f2Thin_eq true ac ss cc _ H1 (hx.below (by (repeat (first | exact Below.refl _ _ | refine Below.alloc ?_ (by first | omega | (simp; done) | (simp; omega)) _ | refine Below.drew ?_ | refine Below.setCell ?_ (by first | omega | (simp; done) | (simp; omega)) _ | refine Below.trans ?_ (Below.mono (by assumption) (by first | omega | (simp; done) | (simp; omega))))))) hsl).mono ?_
  rintro e w1 ⟨rfl, b1⟩
  have t1 : Below w.heap.size w w1 := by (repeat (first | exact Below.refl _ _ | refine Below.alloc ?_ (by first | omega | (simp; done) | (simp; omega)) _ | refine Below.drew ?_ | refine Below.setCell ?_ (by first | omega | (simp; done) | (simp; omega)) _ | refine Below.trans ?_ (Below.mono (by assumption) (by first | omega | (simp; done) | (simp; omega)))))
  replace hx := hx.below t1
  replace ht := ht.below t1
  replace hd := hd.below t1
  have CB := ((Cells.new w #[.slice ac ss.length cc] 24).alloc (.cells #[.int .i64 st, .int .i64 rate, .int .i64 keeps, .slice ad ds.length cd] 29)).below b1
  have CA := (Cells.new' (w.alloc (.cells #[.slice ac ss.length cc] 24)) #[.int .i64 st, .int .i64 rate, .int .i64 keeps, .slice ad ds.length cd] 29 (w.heap.size + 1) (by simp)).below b1
  have q0 := CB.cell 0
  have p0 := CA.cell 0
  have p1 := CA.cell 1
  have p2 := CA.cell 2
  have p3 := CA.cell 3
  simp at q0 p0 p1 p2 p3
  have lq := CB.lt
  have lp := CA.lt
  clear CB CA
  go_wp2_with fail
  go_at_call 5
  refine (f2Fault_eq 0 ac ss cc _ H2 H1 hx).mono ?_
  rintro e w2 ⟨rfl, b2⟩
  have j2 : Below w1.heap.size w1 w2 := by (repeat (first | exact Below.refl _ _ | refine Below.alloc ?_ (by first | omega | (simp; done) | (simp; omega)) _ | refine Below.drew ?_ | refine Below.setCell ?_ (by first | omega | (simp; done) | (simp; omega)) _ | refine Below.trans ?_ (Below.mono (by assumption) (by first | omega | (simp; done) | (simp; omega)))))
  have t2 : Below w.heap.size w w2 := t1.trans (j2.mono t1.size)
  replace hx := hx.below j2
  replace ht := ht.below j2
  replace hd := hd.below j2
  replace q0 := below_cell j2 q0
  replace p0 := below_cell j2 p0
  replace p1 := below_cell j2 p1
  replace p2 := below_cell j2 p2
  replace p3 := below_cell j2 p3
  replace lq := Nat.lt_of_lt_of_le lq j2.size
  replace lp := Nat.lt_of_lt_of_le lp j2.size
  go_wp2_with fail
  go_at_call 6
  refine (f2IsText_eq true ac ss cc at0 text ct _ H5 H1 ht h4).mono ?_
  rintro e w3 ⟨rfl, b3⟩
  have j3 : Below w2.heap.size w2 w3 := by (repeat (first | exact Below.refl _ _ | refine Below.alloc ?_ (by first | omega | (simp; done) | (simp; omega)) _ | refine Below.drew ?_ | refine Below.setCell ?_ (by first | omega | (simp; done) | (simp; omega)) _ | refine Below.trans ?_ (Below.mono (by assumption) (by first | omega | (simp; done) | (simp; omega)))))
  have t3 : Below w.heap.size w w3 := t2.trans (j3.mono t2.size)
  replace hx := hx.below j3
  replace ht := ht.below j3
  replace hd := hd.below j3
  replace q0 := below_cell j3 q0
  replace p0 := below_cell j3 p0
  replace p1 := below_cell j3 p1
  replace p2 := below_cell j3 p2
  replace p3 := below_cell j3 p3
  replace lq := Nat.lt_of_lt_of_le lq j3.size
  replace lp := Nat.lt_of_lt_of_le lp j3.size
  go_wp2_with fail
  go_at_call 7
  refine (thin_eq st rate keeps ds ad cd _ false H6 hd HB).mono ?_
  rintro e w4 ⟨rfl, b4⟩
  have j4 : Below w3.heap.size w3 w4 := by (repeat (first | exact Below.refl _ _ | refine Below.alloc ?_ (by first | omega | (simp; done) | (simp; omega)) _ | refine Below.drew ?_ | refine Below.setCell ?_ (by first | omega | (simp; done) | (simp; omega)) _ | refine Below.trans ?_ (Below.mono (by assumption) (by first | omega | (simp; done) | (simp; omega)))))
  have t4 : Below w.heap.size w w4 := t3.trans (j4.mono t3.size)
  replace hx := hx.below j4
  replace ht := ht.below j4
  replace hd := hd.below j4
  replace q0 := below_cell j4 q0
  replace p0 := below_cell j4 p0
  replace p1 := below_cell j4 p1
  replace p2 := below_cell j4 p2
  replace p3 := below_cell j4 p3
  replace lq := Nat.lt_of_lt_of_le lq j4.size
  replace lp := Nat.lt_of_lt_of_le lp j4.size
  go_wp2_with fail
  go_at_call 9
  refine (worded_any _).mono ?_
  rintro e w5 ⟨rfl, b5⟩
  have j5 : Below w4.heap.size w4 w5 := by (repeat (first | exact Below.refl _ _ | refine Below.alloc ?_ (by first | omega | (simp; done) | (simp; omega)) _ | refine Below.drew ?_ | refine Below.setCell ?_ (by first | omega | (simp; done) | (simp; omega)) _ | refine Below.trans ?_ (Below.mono (by assumption) (by first | omega | (simp; done) | (simp; omega)))))
  have t5 : Below w.heap.size w w5 := t4.trans (j5.mono t4.size)
  replace hx := hx.below j5
  replace ht := ht.below j5
  replace hd := hd.below j5
  replace q0 := below_cell j5 q0
  replace p0 := below_cell j5 p0
  replace p1 := below_cell j5 p1
  replace p2 := below_cell j5 p2
  replace p3 := below_cell j5 p3
  replace lq := Nat.lt_of_lt_of_le lq j5.size
  replace lp := Nat.lt_of_lt_of_le lp j5.size
  go_wp2_with fail
  go_ret
  exact ⟨rfl, t5⟩
set_option maxRecDepth 100000 in
set_option maxHeartbeats 8000000 in
theorem topw_7 (ac : Option Addr) (ss : List ByteArray) (cc : Nat) (at0 : Option Addr) (text : List Int) (ct : Nat) (aw : Option Addr) (ws : List Int) (cw : Nat) (er : Int) (st rate keeps : Int) (ds : List Dis) (ad : Option Addr) (cd : Nat) (wh : Int) (w : World) (hx : StrsAt w ac ss) (hsl : ss.length ≤ 9223372036854775807) (ht : IntsAt w at0 text) (hd : DisAt w ad ds) (big : AccBig ds) (h1 : thinS ss = true) (h2 : faultS ss = 0) (h3 : text.length ≠ 0) (h4 : text.length ≤ 5) (h5 : isTextB ss.length text = true) (h6 : thinB ds = true) (h7 : accErr ⟨st, rate, keeps, ds⟩ ≠ 0) :
    Calls Try.prog 3 #[.agg #[.slice ac ss.length cc], .slice at0 text.length ct, .slice aw ws.length cw, .int .u8 er, .agg #[.int .i64 st, .int .i64 rate, .int .i64 keeps, .slice ad ds.length cd], .int .u8 wh] w fun e w' => e = .returned (.bool true) ∧ Below w.heap.size w w' := by
  have HB := Lib.hid big
  have H1 := Lib.hid h1
  have H2 := Lib.hid h2
  have f3 : ((text.length : Int) == 0) = false := by rw [beq_eq_false_iff_ne]; omega
  have f4 : ¬ (5 : Int) < (text.length : Int) := by omega
  have H5 := Lib.hid h5
  have H6 := Lib.hid h6
  obtain ⟨F, hF⟩ : ∃ F, accErr ⟨st, rate, keeps, ds⟩ = F := ⟨_, rfl⟩
  rw [hF] at h7
  have H7 := Lib.hid hF
  have f7 : (F != 0) = true := by simpa using h7
  clear big h1 h2 h3 h5 h6 hF h7
  go_enter Try.func3, Try.ntmps3
  go_wp2_with fail
  go_at_call 4
  refine (f2Thin_eq true ac ss cc _ H1 (hx.below (by (repeat (first | exact Below.refl _ _ | refine Below.alloc ?_ (by first | omega | (simp; done) | (simp; omega)) _ | refine Below.drew ?_ | refine Below.setCell ?_ (by first | omega | (simp; done) | (simp; omega)) _ | refine Below.trans ?_ (Below.mono (by assumption) (by first | omega | (simp; done) | (simp; omega))))))) hsl).mono ?_
  rintro e w1 ⟨rfl, b1⟩
  have t1 : Below w.heap.size w w1 := by (repeat (first | exact Below.refl _ _ | refine Below.alloc ?_ (by first | omega | (simp; done) | (simp; omega)) _ | refine Below.drew ?_ | refine Below.setCell ?_ (by first | omega | (simp; done) | (simp; omega)) _ | refine Below.trans ?_ (Below.mono (by assumption) (by first | omega | (simp; done) | (simp; omega)))))
  replace hx := hx.below t1
  replace ht := ht.below t1
  replace hd := hd.below t1
  have CB := ((Cells.new w #[.slice ac ss.length cc] 24).alloc (.cells #[.int .i64 st, .int .i64 rate, .int .i64 keeps, .slice ad ds.length cd] 29)).below b1
  have CA := (Cells.new' (w.alloc (.cells #[.slice ac ss.length cc] 24)) #[.int .i64 st, .int .i64 rate, .int .i64 keeps, .slice ad ds.length cd] 29 (w.heap.size + 1) (by simp)).below b1
  have q0 := CB.cell 0
  have p0 := CA.cell 0
  have p1 := CA.cell 1
  have p2 := CA.cell 2
  have p3 := CA.cell 3
  simp at q0 p0 p1 p2 p3
  have lq := CB.lt
  have lp := CA.lt
  clear CB CA
  go_wp2_with fail
  go_at_call 5
  refine (f2Fault_eq 0 ac ss cc _ H2 H1 hx).mono ?_
  rintro e w2 ⟨rfl, b2⟩
  have j2 : Below w1.heap.size w1 w2 := by (repeat (first | exact Below.refl _ _ | refine Below.alloc ?_ (by first | omega | (simp; done) | (simp; omega)) _ | refine Below.drew ?_ | refine Below.setCell ?_ (by first | omega | (simp; done) | (simp; omega)) _ | refine Below.trans ?_ (Below.mono (by assumption) (by first | omega | (simp; done) | (simp; omega)))))
  have t2 : Below w.heap.size w w2 := t1.trans (j2.mono t1.size)
  replace hx := hx.below j2
  replace ht := ht.below j2
  replace hd := hd.below j2
  replace q0 := below_cell j2 q0
  replace p0 := below_cell j2 p0
  replace p1 := below_cell j2 p1
  replace p2 := below_cell j2 p2
  replace p3 := below_cell j2 p3
  replace lq := Nat.lt_of_lt_of_le lq j2.size
  replace lp := Nat.lt_of_lt_of_le lp j2.size
  go_wp2_with fail
  go_at_call 6
  refine (f2IsText_eq true ac ss cc at0 text ct _ H5 H1 ht h4).mono ?_
  rintro e w3 ⟨rfl, b3⟩
  have j3 : Below w2.heap.size w2 w3 := by (repeat (first | exact Below.refl _ _ | refine Below.alloc ?_ (by first | omega | (simp; done) | (simp; omega)) _ | refine Below.drew ?_ | refine Below.setCell ?_ (by first | omega | (simp; done) | (simp; omega)) _ | refine Below.trans ?_ (Below.mono (by assumption) (by first | omega | (simp; done) | (simp; omega)))))
  have t3 : Below w.heap.size w w3 := t2.trans (j3.mono t2.size)
  replace hx := hx.below j3
  replace ht := ht.below j3
  replace hd := hd.below j3
  replace q0 := below_cell j3 q0
  replace p0 := below_cell j3 p0
  replace p1 := below_cell j3 p1
  replace p2 := below_cell j3 p2
  replace p3 := below_cell j3 p3
  replace lq := Nat.lt_of_lt_of_le lq j3.size
  replace lp := Nat.lt_of_lt_of_le lp j3.size
  go_wp2_with fail
  go_at_call 7
  refine (thin_eq st rate keeps ds ad cd _ true H6 hd HB).mono ?_
  rintro e w4 ⟨rfl, b4⟩
  have j4 : Below w3.heap.size w3 w4 := by (repeat (first | exact Below.refl _ _ | refine Below.alloc ?_ (by first | omega | (simp; done) | (simp; omega)) _ | refine Below.drew ?_ | refine Below.setCell ?_ (by first | omega | (simp; done) | (simp; omega)) _ | refine Below.trans ?_ (Below.mono (by assumption) (by first | omega | (simp; done) | (simp; omega)))))
  have t4 : Below w.heap.size w w4 := t3.trans (j4.mono t3.size)
  replace hx := hx.below j4
  replace ht := ht.below j4
  replace hd := hd.below j4
  replace q0 := below_cell j4 q0
  replace p0 := below_cell j4 p0
  replace p1 := below_cell j4 p1
  replace p2 := below_cell j4 p2
  replace p3 := below_cell j4 p3
  replace lq := Nat.lt_of_lt_of_le lq j4.size
  replace lp := Nat.lt_of_lt_of_le lp j4.size
  go_wp2_with fail
  go_at_call 8
  refine (rFault_eq' st rate keeps ds ad cd F _ H7 H6 hd).mono ?_
  rintro e w5 ⟨rfl, b5⟩
  have j5 : Below w4.heap.size w4 w5 := by (repeat (first | exact Below.refl _ _ | refine Below.alloc ?_ (by first | omega | (simp; done) | (simp; omega)) _ | refine Below.drew ?_ | refine Below.setCell ?_ (by first | omega | (simp; done) | (simp; omega)) _ | refine Below.trans ?_ (Below.mono (by assumption) (by first | omega | (simp; done) | (simp; omega)))))
  have t5 : Below w.heap.size w w5 := t4.trans (j5.mono t4.size)
  replace hx := hx.below j5
  replace ht := ht.below j5
  replace hd := hd.below j5
  replace q0 := below_cell j5 q0
  replace p0 := below_cell j5 p0
  replace p1 := below_cell j5 p1
  replace p2 := below_cell j5 p2
  replace p3 := below_cell j5 p3
  replace lq := Nat.lt_of_lt_of_le lq j5.size
  replace lp := Nat.lt_of_lt_of_le lp j5.size
  go_wp2_with fail
  go_at_call 9
  refine (worded_any _).mono ?_
  rintro e w6 ⟨rfl, b6⟩
  have j6 : Below w5.heap.size w5 w6 := by (repeat (first | exact Below.refl _ _ | refine Below.alloc ?_ (by first | omega | (simp; done) | (simp; omega)) _ | refine Below.drew ?_ | refine Below.setCell ?_ (by first | omega | (simp; done) | (simp; omega)) _ | refine Below.trans ?_ (Below.mono (by assumption) (by first | omega | (simp; done) | (simp; omega)))))
  have t6 : Below w.heap.size w w6 := t5.trans (j6.mono t5.size)
  replace hx := hx.below j6
  replace ht := ht.below j6
  replace hd := hd.below j6
  replace q0 := below_cell j6 q0
  replace p0 := below_cell j6 p0
  replace p1 := below_cell j6 p1
  replace p2 := below_cell j6 p2
  replace p3 := below_cell j6 p3
  replace lq := Nat.lt_of_lt_of_le lq j6.size
  replace lp := Nat.lt_of_lt_of_le lp j6.size
  go_wp2_with fail
  go_ret
  exact ⟨rfl, t6⟩
set_option maxRecDepth 100000 in
set_option maxHeartbeats 8000000 in
theorem topw_8 (ac : Option Addr) (ss : List ByteArray) (cc : Nat) (at0 : Option Addr) (text : List Int) (ct : Nat) (aw : Option Addr) (ws : List Int) (cw : Nat) (er : Int) (st rate keeps : Int) (ds : List Dis) (ad : Option Addr) (cd : Nat) (wh : Int) (w : World) (hx : StrsAt w ac ss) (hsl : ss.length ≤ 9223372036854775807) (ht : IntsAt w at0 text) (hd : DisAt w ad ds) (big : AccBig ds) (h1 : thinS ss = true) (h2 : faultS ss = 0) (h3 : text.length ≠ 0) (h4 : text.length ≤ 5) (h5 : isTextB ss.length text = true) (h6 : thinB ds = true) (h7 : accErr ⟨st, rate, keeps, ds⟩ = 0) (h8 : ds.length = 0) :
    Calls Try.prog 3 #[.agg #[.slice ac ss.length cc], .slice at0 text.length ct, .slice aw ws.length cw, .int .u8 er, .agg #[.int .i64 st, .int .i64 rate, .int .i64 keeps, .slice ad ds.length cd], .int .u8 wh] w fun e w' => e = .returned (.bool true) ∧ Below w.heap.size w w' := by
  have HB := Lib.hid big
  have H1 := Lib.hid h1
  have H2 := Lib.hid h2
  have f3 : ((text.length : Int) == 0) = false := by rw [beq_eq_false_iff_ne]; omega
  have f4 : ¬ (5 : Int) < (text.length : Int) := by omega
  have H5 := Lib.hid h5
  have H6 := Lib.hid h6
  have H7 := Lib.hid h7
  have f8 : ((ds.length : Int) == 0) = true := by rw [h8]; rfl
  clear big h1 h2 h3 h5 h6 h7 h8
  go_enter Try.func3, Try.ntmps3
  go_wp2_with fail
  go_at_call 4
  refine (f2Thin_eq true ac ss cc _ H1 (hx.below (by (repeat (first | exact Below.refl _ _ | refine Below.alloc ?_ (by first | omega | (simp; done) | (simp; omega)) _ | refine Below.drew ?_ | refine Below.setCell ?_ (by first | omega | (simp; done) | (simp; omega)) _ | refine Below.trans ?_ (Below.mono (by assumption) (by first | omega | (simp; done) | (simp; omega))))))) hsl).mono ?_
  rintro e w1 ⟨rfl, b1⟩
  have t1 : Below w.heap.size w w1 := by (repeat (first | exact Below.refl _ _ | refine Below.alloc ?_ (by first | omega | (simp; done) | (simp; omega)) _ | refine Below.drew ?_ | refine Below.setCell ?_ (by first | omega | (simp; done) | (simp; omega)) _ | refine Below.trans ?_ (Below.mono (by assumption) (by first | omega | (simp; done) | (simp; omega)))))
  replace hx := hx.below t1
  replace ht := ht.below t1
  replace hd := hd.below t1
  have CB := ((Cells.new w #[.slice ac ss.length cc] 24).alloc (.cells #[.int .i64 st, .int .i64 rate, .int .i64 keeps, .slice ad ds.length cd] 29)).below b1
  have CA := (Cells.new' (w.alloc (.cells #[.slice ac ss.length cc] 24)) #[.int .i64 st, .int .i64 rate, .int .i64 keeps, .slice ad ds.length cd] 29 (w.heap.size + 1) (by simp)).below b1
  have q0 := CB.cell 0
  have p0 := CA.cell 0
  have p1 := CA.cell 1
  have p2 := CA.cell 2
  have p3 := CA.cell 3
  simp at q0 p0 p1 p2 p3
  have lq := CB.lt
  have lp := CA.lt
  clear CB CA
  go_wp2_with fail
  go_at_call 5
  refine (f2Fault_eq 0 ac ss cc _ H2 H1 hx).mono ?_
  rintro e w2 ⟨rfl, b2⟩
  have j2 : Below w1.heap.size w1 w2 := by (repeat (first | exact Below.refl _ _ | refine Below.alloc ?_ (by first | omega | (simp; done) | (simp; omega)) _ | refine Below.drew ?_ | refine Below.setCell ?_ (by first | omega | (simp; done) | (simp; omega)) _ | refine Below.trans ?_ (Below.mono (by assumption) (by first | omega | (simp; done) | (simp; omega)))))
  have t2 : Below w.heap.size w w2 := t1.trans (j2.mono t1.size)
  replace hx := hx.below j2
  replace ht := ht.below j2
  replace hd := hd.below j2
  replace q0 := below_cell j2 q0
  replace p0 := below_cell j2 p0
  replace p1 := below_cell j2 p1
  replace p2 := below_cell j2 p2
  replace p3 := below_cell j2 p3
  replace lq := Nat.lt_of_lt_of_le lq j2.size
  replace lp := Nat.lt_of_lt_of_le lp j2.size
  go_wp2_with fail
  go_at_call 6
  refine (f2IsText_eq true ac ss cc at0 text ct _ H5 H1 ht h4).mono ?_
  rintro e w3 ⟨rfl, b3⟩
  have j3 : Below w2.heap.size w2 w3 := by (repeat (first | exact Below.refl _ _ | refine Below.alloc ?_ (by first | omega | (simp; done) | (simp; omega)) _ | refine Below.drew ?_ | refine Below.setCell ?_ (by first | omega | (simp; done) | (simp; omega)) _ | refine Below.trans ?_ (Below.mono (by assumption) (by first | omega | (simp; done) | (simp; omega)))))
  have t3 : Below w.heap.size w w3 := t2.trans (j3.mono t2.size)
  replace hx := hx.below j3
  replace ht := ht.below j3
  replace hd := hd.below j3
  replace q0 := below_cell j3 q0
  replace p0 := below_cell j3 p0
  replace p1 := below_cell j3 p1
  replace p2 := below_cell j3 p2
  replace p3 := below_cell j3 p3
  replace lq := Nat.lt_of_lt_of_le lq j3.size
  replace lp := Nat.lt_of_lt_of_le lp j3.size
  go_wp2_with fail
  go_at_call 7
  refine (thin_eq st rate keeps ds ad cd _ true H6 hd HB).mono ?_
  rintro e w4 ⟨rfl, b4⟩
  have j4 : Below w3.heap.size w3 w4 := by (repeat (first | exact Below.refl _ _ | refine Below.alloc ?_ (by first | omega | (simp; done) | (simp; omega)) _ | refine Below.drew ?_ | refine Below.setCell ?_ (by first | omega | (simp; done) | (simp; omega)) _ | refine Below.trans ?_ (Below.mono (by assumption) (by first | omega | (simp; done) | (simp; omega)))))
  have t4 : Below w.heap.size w w4 := t3.trans (j4.mono t3.size)
  replace hx := hx.below j4
  replace ht := ht.below j4
  replace hd := hd.below j4
  replace q0 := below_cell j4 q0
  replace p0 := below_cell j4 p0
  replace p1 := below_cell j4 p1
  replace p2 := below_cell j4 p2
  replace p3 := below_cell j4 p3
  replace lq := Nat.lt_of_lt_of_le lq j4.size
  replace lp := Nat.lt_of_lt_of_le lp j4.size
  go_wp2_with fail
  go_at_call 8
  refine (rFault_eq' st rate keeps ds ad cd 0 _ H7 H6 hd).mono ?_
  rintro e w5 ⟨rfl, b5⟩
  have j5 : Below w4.heap.size w4 w5 := by (repeat (first | exact Below.refl _ _ | refine Below.alloc ?_ (by first | omega | (simp; done) | (simp; omega)) _ | refine Below.drew ?_ | refine Below.setCell ?_ (by first | omega | (simp; done) | (simp; omega)) _ | refine Below.trans ?_ (Below.mono (by assumption) (by first | omega | (simp; done) | (simp; omega)))))
  have t5 : Below w.heap.size w w5 := t4.trans (j5.mono t4.size)
  replace hx := hx.below j5
  replace ht := ht.below j5
  replace hd := hd.below j5
  replace q0 := below_cell j5 q0
  replace p0 := below_cell j5 p0
  replace p1 := below_cell j5 p1
  replace p2 := below_cell j5 p2
  replace p3 := below_cell j5 p3
  replace lq := Nat.lt_of_lt_of_le lq j5.size
  replace lp := Nat.lt_of_lt_of_le lp j5.size
  go_wp2_with fail
  go_at_call 9
  refine (worded_any _).mono ?_
  rintro e w6 ⟨rfl, b6⟩
  have j6 : Below w5.heap.size w5 w6 := by (repeat (first | exact Below.refl _ _ | refine Below.alloc ?_ (by first | omega | (simp; done) | (simp; omega)) _ | refine Below.drew ?_ | refine Below.setCell ?_ (by first | omega | (simp; done) | (simp; omega)) _ | refine Below.trans ?_ (Below.mono (by assumption) (by first | omega | (simp; done) | (simp; omega)))))
  have t6 : Below w.heap.size w w6 := t5.trans (j6.mono t5.size)
  replace hx := hx.below j6
  replace ht := ht.below j6
  replace hd := hd.below j6
  replace q0 := below_cell j6 q0
  replace p0 := below_cell j6 p0
  replace p1 := below_cell j6 p1
  replace p2 := below_cell j6 p2
  replace p3 := below_cell j6 p3
  replace lq := Nat.lt_of_lt_of_le lq j6.size
  replace lp := Nat.lt_of_lt_of_le lp j6.size
  go_wp2_with fail
  go_ret
  exact ⟨rfl, t6⟩
end Go.Proofs.Ytaphfibfjepceaa
