/- TopGuessed: the ways that end early -/
import Derived.Test.YtnofcpihkglmmaaTe
import Derived.Test.YtnofcpihkglmmaaTf
import Derived.Test.YtnofcpihkglmmaaLk
namespace Go.Proofs.Ytnofcpihkglmmaa
set_option linter.unusedVariables false
set_option linter.unusedSimpArgs false
set_option linter.unnecessarySimpa false
open Go.RowKit Go.Flow
theorem f2Thin_eq (R : Bool) (a : Option Addr) (ss : List ByteArray) (c : Nat) (w : World) (HR : Hid (thinS ss = R)) (hx : StrsAt w a ss) (hl : ss.length ≤ 9223372036854775807) :
    Calls Try.prog 4 #[.agg #[.slice a ss.length c], .string ⟨#[]⟩] w fun e w' => e = .returned (.bool R) ∧ Below w.heap.size w w' := by rw [← HR.out]; exact f2Thin a ss c w hx hl
theorem thinS_iff {ss : List ByteArray} (h : thinS ss = true) : ss.length ≤ 9 ∧ ∀ x ∈ ss, x.size ≤ 9 := by
  unfold thinS at h
  rw [Bool.and_eq_true, List.all_eq_true] at h
  exact ⟨by simpa using h.1, fun x hx => by simpa using h.2 x hx⟩
theorem f2Fault_eq (E : Int) (a : Option Addr) (ss : List ByteArray) (c : Nat) (w : World) (HE : Hid (faultS ss = E)) (HT : Hid (thinS ss = true)) (hx : StrsAt w a ss) :
    Calls Try.prog 5 #[.agg #[.slice a ss.length c]] w fun e w' => e = .returned (.int .i64 E) ∧ Below w.heap.size w w' := by
  rw [← HE.out]
  have h := thinS_iff HT.out
  exact f2Fault a ss c w hx (by omega) (fun x hm => by have := h.2 x hm; omega)
theorem rf_eq (s wo : Int) (ak : Option Addr) (ks : List (Int × Int × Int)) (ck : Nat) (ad : Option Addr) (ds : List Int) (cd : Nat) (E : Int) (w : World) (HE : Hid (bookErr s wo ks ds = E)) (HT : Hid ((decide (ks.length ≤ 8) && decide (ds.length ≤ 11)) = true)) (hk : Recs3At w ak ks) (hd : IntsAt w ad ds) :
    Calls Try.prog 7 #[.agg #[.int .i64 s, .int .i64 wo, .slice ak ks.length ck, .slice ad ds.length cd]] w fun e w' => e = .returned (.int .i64 E) ∧ Below w.heap.size w w' := by
  rw [← HE.out]
  have h := HT.out
  simp only [Bool.and_eq_true, decide_eq_true_eq] at h
  exact refFault_any s wo ak ks ck ad ds cd w hk hd (by omega) (by omega)
theorem pl_eq (s wo : Int) (ak : Option Addr) (ks : List (Int × Int × Int)) (ck : Nat) (ad : Option Addr) (ds : List Int) (cd : Nat) (a : Option Addr) (l : List Int) (c : Nat) (r : Bool) (h : Hid (l.all (plainOk s) = r)) (HB : Hid (bookErr s wo ks ds = 0)) (w : World) (hl : IntsAt w a l) (ll : l.length ≤ 10) :
    Calls Try.prog 8 #[.agg #[.int .i64 s, .int .i64 wo, .slice ak ks.length ck, .slice ad ds.length cd], .slice a l.length c] w fun e w' => e = .returned (.bool r) ∧ Below w.heap.size w w' := by
  obtain ⟨_, _, s0, s1, _⟩ := bookErr_ok HB.out
  exact plainRef_eq s wo _ _ a l c r h w (by omega) (by omega) hl (by omega)
set_option maxRecDepth 100000 in
set_option maxHeartbeats 8000000 in
theorem topg_1 (ac : Option Addr) (ss : List ByteArray) (cc : Nat) (s wo : Int) (ak : Option Addr) (ks : List (Int × Int × Int)) (ck : Nat) (ad : Option Addr) (ds : List Int) (cd : Nat) (ap : Option Addr) (plain : List Int) (cp : Nat) (aw : Option Addr) (ws : List Int) (cw : Nat) (wh at_ er bits : Int) (w : World) (hx : StrsAt w ac ss) (hsl : ss.length ≤ 9223372036854775807) (hk : Recs3At w ak ks) (hd : IntsAt w ad ds) (hp : IntsAt w ap plain) (h1 : thinS ss = false) :
    Calls Try.prog 3 #[.agg #[.slice ac ss.length cc], .agg #[.int .i64 s, .int .i64 wo, .slice ak ks.length ck, .slice ad ds.length cd], .slice ap plain.length cp, .slice aw ws.length cw, .int .u8 wh, .int .u8 at_, .int .u8 er, .int .u16 bits] w fun e w' => e = .returned (.bool true) ∧ Below w.heap.size w w' := by
  have H1 := Lib.hid h1
  clear h1
  go_enter Try.func3, Try.ntmps3
  go_wp2_with fail
  go_at_call 4
  refine (f2Thin_eq false ac ss cc _ H1 (hx.below (by (repeat (first | exact Below.refl _ _ | refine Below.alloc ?_ (by first | omega | (simp; done) | (simp; omega)) _ | refine Below.drew ?_ | refine Below.setCell ?_ (by first | omega | (simp; done) | (simp; omega)) _ | refine Below.trans ?_ (Below.mono (by assumption) (by first | omega | (simp; done) | (simp; omega))))))) hsl).mono ?_
  rintro e w1 ⟨rfl, b1⟩
  have t1 : Below w.heap.size w w1 := by (repeat (first | exact Below.refl _ _ | refine Below.alloc ?_ (by first | omega | (simp; done) | (simp; omega)) _ | refine Below.drew ?_ | refine Below.setCell ?_ (by first | omega | (simp; done) | (simp; omega)) _ | refine Below.trans ?_ (Below.mono (by assumption) (by first | omega | (simp; done) | (simp; omega)))))
  replace hx := hx.below t1
  replace hk := hk.below t1
  replace hd := hd.below t1
  replace hp := hp.below t1
  have CB := ((Cells.new w #[.slice ac ss.length cc] 24).alloc (.cells #[.int .i64 s, .int .i64 wo, .slice ak ks.length ck, .slice ad ds.length cd] 28)).below b1
  have CA := (Cells.new' (w.alloc (.cells #[.slice ac ss.length cc] 24)) #[.int .i64 s, .int .i64 wo, .slice ak ks.length ck, .slice ad ds.length cd] 28 (w.heap.size + 1) (by simp)).below b1
  have q0 := CB.cell 0
  have p0 := CA.cell 0
  have p1 := CA.cell 1
  have p2 := CA.cell 2
  have p3 := CA.cell 3
  simp at q0 p0 p1 p2 p3
  have lq := CB.lt
  have lp := CA.lt
  clear CB CA
  go_wp2_with fail
  go_at_call 9
  refine (coded_any _).mono ?_
  rintro e w2 ⟨rfl, b2⟩
  have j2 : Below w1.heap.size w1 w2 := by (repeat (first | exact Below.refl _ _ | refine Below.alloc ?_ (by first | omega | (simp; done) | (simp; omega)) _ | refine Below.drew ?_ | refine Below.setCell ?_ (by first | omega | (simp; done) | (simp; omega)) _ | refine Below.trans ?_ (Below.mono (by assumption) (by first | omega | (simp; done) | (simp; omega)))))
  have t2 : Below w.heap.size w w2 := t1.trans (j2.mono t1.size)
  replace hx := hx.below j2
  replace hk := hk.below j2
  replace hd := hd.below j2
  replace hp := hp.below j2
  replace q0 := below_cell j2 q0
  replace p0 := below_cell j2 p0
  replace p1 := below_cell j2 p1
  replace p2 := below_cell j2 p2
  replace p3 := below_cell j2 p3
  replace lq := Nat.lt_of_lt_of_le lq j2.size
  replace lp := Nat.lt_of_lt_of_le lp j2.size
  go_wp2_with fail
  go_ret
  exact ⟨rfl, t2⟩
set_option maxRecDepth 100000 in
set_option maxHeartbeats 8000000 in
theorem topg_2 (ac : Option Addr) (ss : List ByteArray) (cc : Nat) (s wo : Int) (ak : Option Addr) (ks : List (Int × Int × Int)) (ck : Nat) (ad : Option Addr) (ds : List Int) (cd : Nat) (ap : Option Addr) (plain : List Int) (cp : Nat) (aw : Option Addr) (ws : List Int) (cw : Nat) (wh at_ er bits : Int) (w : World) (hx : StrsAt w ac ss) (hsl : ss.length ≤ 9223372036854775807) (hk : Recs3At w ak ks) (hd : IntsAt w ad ds) (hp : IntsAt w ap plain) (h1 : thinS ss = true) (h2 : faultS ss ≠ 0) :
    Calls Try.prog 3 #[.agg #[.slice ac ss.length cc], .agg #[.int .i64 s, .int .i64 wo, .slice ak ks.length ck, .slice ad ds.length cd], .slice ap plain.length cp, .slice aw ws.length cw, .int .u8 wh, .int .u8 at_, .int .u8 er, .int .u16 bits] w fun e w' => e = .returned (.bool true) ∧ Below w.heap.size w w' := by
  have H1 := Lib.hid h1
  obtain ⟨E, hE⟩ : ∃ E, faultS ss = E := ⟨_, rfl⟩
  rw [hE] at h2
  have H2 := Lib.hid hE
  have f2 : (E != 0) = true := by simpa using h2
  clear h1 hE h2
  go_enter Try.func3, Try.ntmps3
  go_wp2_with fail
  go_at_call 4
  refine (f2Thin_eq true ac ss cc _ H1 (hx.below (by (repeat (first | exact Below.refl _ _ | refine Below.alloc ?_ (by first | omega | (simp; done) | (simp; omega)) _ | refine Below.drew ?_ | refine Below.setCell ?_ (by first | omega | (simp; done) | (simp; omega)) _ | refine Below.trans ?_ (Below.mono (by assumption) (by first | omega | (simp; done) | (simp; omega))))))) hsl).mono ?_
  rintro e w1 ⟨rfl, b1⟩
  have t1 : Below w.heap.size w w1 := by (repeat (first | exact Below.refl _ _ | refine Below.alloc ?_ (by first | omega | (simp; done) | (simp; omega)) _ | refine Below.drew ?_ | refine Below.setCell ?_ (by first | omega | (simp; done) | (simp; omega)) _ | refine Below.trans ?_ (Below.mono (by assumption) (by first | omega | (simp; done) | (simp; omega)))))
  replace hx := hx.below t1
  replace hk := hk.below t1
  replace hd := hd.below t1
  replace hp := hp.below t1
  have CB := ((Cells.new w #[.slice ac ss.length cc] 24).alloc (.cells #[.int .i64 s, .int .i64 wo, .slice ak ks.length ck, .slice ad ds.length cd] 28)).below b1
  have CA := (Cells.new' (w.alloc (.cells #[.slice ac ss.length cc] 24)) #[.int .i64 s, .int .i64 wo, .slice ak ks.length ck, .slice ad ds.length cd] 28 (w.heap.size + 1) (by simp)).below b1
  have q0 := CB.cell 0
  have p0 := CA.cell 0
  have p1 := CA.cell 1
  have p2 := CA.cell 2
  have p3 := CA.cell 3
  simp at q0 p0 p1 p2 p3
  have lq := CB.lt
  have lp := CA.lt
  clear CB CA
  go_wp2_with fail
  go_at_call 5
  refine (f2Fault_eq E ac ss cc _ H2 H1 hx).mono ?_
  rintro e w2 ⟨rfl, b2⟩
  have j2 : Below w1.heap.size w1 w2 := by (repeat (first | exact Below.refl _ _ | refine Below.alloc ?_ (by first | omega | (simp; done) | (simp; omega)) _ | refine Below.drew ?_ | refine Below.setCell ?_ (by first | omega | (simp; done) | (simp; omega)) _ | refine Below.trans ?_ (Below.mono (by assumption) (by first | omega | (simp; done) | (simp; omega)))))
  have t2 : Below w.heap.size w w2 := t1.trans (j2.mono t1.size)
  replace hx := hx.below j2
  replace hk := hk.below j2
  replace hd := hd.below j2
  replace hp := hp.below j2
  replace q0 := below_cell j2 q0
  replace p0 := below_cell j2 p0
  replace p1 := below_cell j2 p1
  replace p2 := below_cell j2 p2
  replace p3 := below_cell j2 p3
  replace lq := Nat.lt_of_lt_of_le lq j2.size
  replace lp := Nat.lt_of_lt_of_le lp j2.size
  go_wp2_with fail
  go_at_call 9
  refine (coded_any _).mono ?_
  rintro e w3 ⟨rfl, b3⟩
  have j3 : Below w2.heap.size w2 w3 := by (repeat (first | exact Below.refl _ _ | refine Below.alloc ?_ (by first | omega | (simp; done) | (simp; omega)) _ | refine Below.drew ?_ | refine Below.setCell ?_ (by first | omega | (simp; done) | (simp; omega)) _ | refine Below.trans ?_ (Below.mono (by assumption) (by first | omega | (simp; done) | (simp; omega)))))
  have t3 : Below w.heap.size w w3 := t2.trans (j3.mono t2.size)
  replace hx := hx.below j3
  replace hk := hk.below j3
  replace hd := hd.below j3
  replace hp := hp.below j3
  replace q0 := below_cell j3 q0
  replace p0 := below_cell j3 p0
  replace p1 := below_cell j3 p1
  replace p2 := below_cell j3 p2
  replace p3 := below_cell j3 p3
  replace lq := Nat.lt_of_lt_of_le lq j3.size
  replace lp := Nat.lt_of_lt_of_le lp j3.size
  go_wp2_with fail
  go_ret
  exact ⟨rfl, t3⟩
set_option maxRecDepth 100000 in
set_option maxHeartbeats 8000000 in
theorem topg_3 (ac : Option Addr) (ss : List ByteArray) (cc : Nat) (s wo : Int) (ak : Option Addr) (ks : List (Int × Int × Int)) (ck : Nat) (ad : Option Addr) (ds : List Int) (cd : Nat) (ap : Option Addr) (plain : List Int) (cp : Nat) (aw : Option Addr) (ws : List Int) (cw : Nat) (wh at_ er bits : Int) (w : World) (hx : StrsAt w ac ss) (hsl : ss.length ≤ 9223372036854775807) (hk : Recs3At w ak ks) (hd : IntsAt w ad ds) (hp : IntsAt w ap plain) (h1 : thinS ss = true) (h2 : faultS ss = 0) (h3 : (decide (ks.length ≤ 8) && decide (ds.length ≤ 11)) = false) :
    Calls Try.prog 3 #[.agg #[.slice ac ss.length cc], .agg #[.int .i64 s, .int .i64 wo, .slice ak ks.length ck, .slice ad ds.length cd], .slice ap plain.length cp, .slice aw ws.length cw, .int .u8 wh, .int .u8 at_, .int .u8 er, .int .u16 bits] w fun e w' => e = .returned (.bool true) ∧ Below w.heap.size w w' := by
  have H1 := Lib.hid h1
  have H2 := Lib.hid h2
  have H3 := Lib.hid h3
  clear h1 h2 h3
  go_enter Try.func3, Try.ntmps3
  go_wp2_with fail
  go_at_call 4
  refine (f2Thin_eq true ac ss cc _ H1 (hx.below (by (repeat (first | exact Below.refl _ _ | refine Below.alloc ?_ (by first | omega | (simp; done) | (simp; omega)) _ | refine Below.drew ?_ | refine Below.setCell ?_ (by first | omega | (simp; done) | (simp; omega)) _ | refine Below.trans ?_ (Below.mono (by assumption) (by first | omega | (simp; done) | (simp; omega))))))) hsl).mono ?_
  rintro e w1 ⟨rfl, b1⟩
  have t1 : Below w.heap.size w w1 := by (repeat (first | exact Below.refl _ _ | refine Below.alloc ?_ (by first | omega | (simp; done) | (simp; omega)) _ | refine Below.drew ?_ | refine Below.setCell ?_ (by first | omega | (simp; done) | (simp; omega)) _ | refine Below.trans ?_ (Below.mono (by assumption) (by first | omega | (simp; done) | (simp; omega)))))
  replace hx := hx.below t1
  replace hk := hk.below t1
  replace hd := hd.below t1
  replace hp := hp.below t1
  have CB := ((Cells.new w #[.slice ac ss.length cc] 24).alloc (.cells #[.int .i64 s, .int .i64 wo, .slice ak ks.length ck, .slice ad ds.length cd] 28)).below b1
  have CA := (Cells.new' (w.alloc (.cells #[.slice ac ss.length cc] 24)) #[.int .i64 s, .int .i64 wo, .slice ak ks.length ck, .slice ad ds.length cd] 28 (w.heap.size + 1) (by simp)).below b1
  have q0 := CB.cell 0
  have p0 := CA.cell 0
  have p1 := CA.cell 1
  have p2 := CA.cell 2
  have p3 := CA.cell 3
  simp at q0 p0 p1 p2 p3
  have lq := CB.lt
  have lp := CA.lt
  clear CB CA
  go_wp2_with fail
  go_at_call 5
  refine (f2Fault_eq 0 ac ss cc _ H2 H1 hx).mono ?_
  rintro e w2 ⟨rfl, b2⟩
  have j2 : Below w1.heap.size w1 w2 := by (repeat (first | exact Below.refl _ _ | refine Below.alloc ?_ (by first | omega | (simp; done) | (simp; omega)) _ | refine Below.drew ?_ | refine Below.setCell ?_ (by first | omega | (simp; done) | (simp; omega)) _ | refine Below.trans ?_ (Below.mono (by assumption) (by first | omega | (simp; done) | (simp; omega)))))
  have t2 : Below w.heap.size w w2 := t1.trans (j2.mono t1.size)
  replace hx := hx.below j2
  replace hk := hk.below j2
  replace hd := hd.below j2
  replace hp := hp.below j2
  replace q0 := below_cell j2 q0
  replace p0 := below_cell j2 p0
  replace p1 := below_cell j2 p1
  replace p2 := below_cell j2 p2
  replace p3 := below_cell j2 p3
  replace lq := Nat.lt_of_lt_of_le lq j2.size
  replace lp := Nat.lt_of_lt_of_le lp j2.size
  go_wp2_with fail
  go_at_call 6
  refine (thin_eq s wo ak ks.length ck ad ds.length cd false H3 _).mono ?_
  rintro e w3 ⟨rfl, b3⟩
  have j3 : Below w2.heap.size w2 w3 := by (repeat (first | exact Below.refl _ _ | refine Below.alloc ?_ (by first | omega | (simp; done) | (simp; omega)) _ | refine Below.drew ?_ | refine Below.setCell ?_ (by first | omega | (simp; done) | (simp; omega)) _ | refine Below.trans ?_ (Below.mono (by assumption) (by first | omega | (simp; done) | (simp; omega)))))
  have t3 : Below w.heap.size w w3 := t2.trans (j3.mono t2.size)
  replace hx := hx.below j3
  replace hk := hk.below j3
  replace hd := hd.below j3
  replace hp := hp.below j3
  replace q0 := below_cell j3 q0
  replace p0 := below_cell j3 p0
  replace p1 := below_cell j3 p1
  replace p2 := below_cell j3 p2
  replace p3 := below_cell j3 p3
  replace lq := Nat.lt_of_lt_of_le lq j3.size
  replace lp := Nat.lt_of_lt_of_le lp j3.size
  go_wp2_with fail
  go_at_call 9
  refine (coded_any _).mono ?_
  rintro e w4 ⟨rfl, b4⟩
  have j4 : Below w3.heap.size w3 w4 := by (repeat (first | exact Below.refl _ _ | refine Below.alloc ?_ (by first | omega | (simp; done) | (simp; omega)) _ | refine Below.drew ?_ | refine Below.setCell ?_ (by first | omega | (simp; done) | (simp; omega)) _ | refine Below.trans ?_ (Below.mono (by assumption) (by first | omega | (simp; done) | (simp; omega)))))
  have t4 : Below w.heap.size w w4 := t3.trans (j4.mono t3.size)
  replace hx := hx.below j4
  replace hk := hk.below j4
  replace hd := hd.below j4
  replace hp := hp.below j4
  replace q0 := below_cell j4 q0
  replace p0 := below_cell j4 p0
  replace p1 := below_cell j4 p1
  replace p2 := below_cell j4 p2
  replace p3 := below_cell j4 p3
  replace lq := Nat.lt_of_lt_of_le lq j4.size
  replace lp := Nat.lt_of_lt_of_le lp j4.size
  go_wp2_with fail
  go_ret
  exact ⟨rfl, t4⟩
set_option maxRecDepth 100000 in
set_option maxHeartbeats 8000000 in
theorem topg_4 (ac : Option Addr) (ss : List ByteArray) (cc : Nat) (s wo : Int) (ak : Option Addr) (ks : List (Int × Int × Int)) (ck : Nat) (ad : Option Addr) (ds : List Int) (cd : Nat) (ap : Option Addr) (plain : List Int) (cp : Nat) (aw : Option Addr) (ws : List Int) (cw : Nat) (wh at_ er bits : Int) (w : World) (hx : StrsAt w ac ss) (hsl : ss.length ≤ 9223372036854775807) (hk : Recs3At w ak ks) (hd : IntsAt w ad ds) (hp : IntsAt w ap plain) (h1 : thinS ss = true) (h2 : faultS ss = 0) (h3 : (decide (ks.length ≤ 8) && decide (ds.length ≤ 11)) = true) (h4 : bookErr s wo ks ds ≠ 0) :
    Calls Try.prog 3 #[.agg #[.slice ac ss.length cc], .agg #[.int .i64 s, .int .i64 wo, .slice ak ks.length ck, .slice ad ds.length cd], .slice ap plain.length cp, .slice aw ws.length cw, .int .u8 wh, .int .u8 at_, .int .u8 er, .int .u16 bits] w fun e w' => e = .returned (.bool true) ∧ Below w.heap.size w w' := by
  have H1 := Lib.hid h1
  have H2 := Lib.hid h2
  have H3 := Lib.hid h3
  obtain ⟨F, hF⟩ : ∃ F, bookErr s wo ks ds = F := ⟨_, rfl⟩
  rw [hF] at h4
  have H4 := Lib.hid hF
  have f4 : (F != 0) = true := by simpa using h4
  clear h1 h2 h3 hF h4
  go_enter Try.func3, Try.ntmps3
  go_wp2_with fail
  go_at_call 4
  refine (f2Thin_eq true ac ss cc _ H1 (hx.below (by (repeat (first | exact Below.refl _ _ | refine Below.alloc ?_ (by first | omega | (simp; done) | (simp; omega)) _ | refine Below.drew ?_ | refine Below.setCell ?_ (by first | omega | (simp; done) | (simp; omega)) _ | refine Below.trans ?_ (Below.mono (by assumption) (by first | omega | (simp; done) | (simp; omega))))))) hsl).mono ?_
  rintro e w1 ⟨rfl, b1⟩
  have t1 : Below w.heap.size w w1 := by (repeat (first | exact Below.refl _ _ | refine Below.alloc ?_ (by first | omega | (simp; done) | (simp; omega)) _ | refine Below.drew ?_ | refine Below.setCell ?_ (by first | omega | (simp; done) | (simp; omega)) _ | refine Below.trans ?_ (Below.mono (by assumption) (by first | omega | (simp; done) | (simp; omega)))))
  replace hx := hx.below t1
  replace hk := hk.below t1
  replace hd := hd.below t1
  replace hp := hp.below t1
  have CB := ((Cells.new w #[.slice ac ss.length cc] 24).alloc (.cells #[.int .i64 s, .int .i64 wo, .slice ak ks.length ck, .slice ad ds.length cd] 28)).below b1
  have CA := (Cells.new' (w.alloc (.cells #[.slice ac ss.length cc] 24)) #[.int .i64 s, .int .i64 wo, .slice ak ks.length ck, .slice ad ds.length cd] 28 (w.heap.size + 1) (by simp)).below b1
  have q0 := CB.cell 0
  have p0 := CA.cell 0
  have p1 := CA.cell 1
  have p2 := CA.cell 2
  have p3 := CA.cell 3
  simp at q0 p0 p1 p2 p3
  have lq := CB.lt
  have lp := CA.lt
  clear CB CA
  go_wp2_with fail
  go_at_call 5
  refine (f2Fault_eq 0 ac ss cc _ H2 H1 hx).mono ?_
  rintro e w2 ⟨rfl, b2⟩
  have j2 : Below w1.heap.size w1 w2 := by (repeat (first | exact Below.refl _ _ | refine Below.alloc ?_ (by first | omega | (simp; done) | (simp; omega)) _ | refine Below.drew ?_ | refine Below.setCell ?_ (by first | omega | (simp; done) | (simp; omega)) _ | refine Below.trans ?_ (Below.mono (by assumption) (by first | omega | (simp; done) | (simp; omega)))))
  have t2 : Below w.heap.size w w2 := t1.trans (j2.mono t1.size)
  replace hx := hx.below j2
  replace hk := hk.below j2
  replace hd := hd.below j2
  replace hp := hp.below j2
  replace q0 := below_cell j2 q0
  replace p0 := below_cell j2 p0
  replace p1 := below_cell j2 p1
  replace p2 := below_cell j2 p2
  replace p3 := below_cell j2 p3
  replace lq := Nat.lt_of_lt_of_le lq j2.size
  replace lp := Nat.lt_of_lt_of_le lp j2.size
  go_wp2_with fail
  go_at_call 6
  refine (thin_eq s wo ak ks.length ck ad ds.length cd true H3 _).mono ?_
  rintro e w3 ⟨rfl, b3⟩
  have j3 : Below w2.heap.size w2 w3 := by (repeat (first | exact Below.refl _ _ | refine Below.alloc ?_ (by first | omega | (simp; done) | (simp; omega)) _ | refine Below.drew ?_ | refine Below.setCell ?_ (by first | omega | (simp; done) | (simp; omega)) _ | refine Below.trans ?_ (Below.mono (by assumption) (by first | omega | (simp; done) | (simp; omega)))))
  have t3 : Below w.heap.size w w3 := t2.trans (j3.mono t2.size)
  replace hx := hx.below j3
  replace hk := hk.below j3
  replace hd := hd.below j3
  replace hp := hp.below j3
  replace q0 := below_cell j3 q0
  replace p0 := below_cell j3 p0
  replace p1 := below_cell j3 p1
  replace p2 := below_cell j3 p2
  replace p3 := below_cell j3 p3
  replace lq := Nat.lt_of_lt_of_le lq j3.size
  replace lp := Nat.lt_of_lt_of_le lp j3.size
  go_wp2_with fail
  go_at_call 7
  refine (rf_eq s wo ak ks ck ad ds cd F _ H4 H3 hk hd).mono ?_
  rintro e w4 ⟨rfl, b4⟩
  have j4 : Below w3.heap.size w3 w4 := by (repeat (first | exact Below.refl _ _ | refine Below.alloc ?_ (by first | omega | (simp; done) | (simp; omega)) _ | refine Below.drew ?_ | refine Below.setCell ?_ (by first | omega | (simp; done) | (simp; omega)) _ | refine Below.trans ?_ (Below.mono (by assumption) (by first | omega | (simp; done) | (simp; omega)))))
  have t4 : Below w.heap.size w w4 := t3.trans (j4.mono t3.size)
  replace hx := hx.below j4
  replace hk := hk.below j4
  replace hd := hd.below j4
  replace hp := hp.below j4
  replace q0 := below_cell j4 q0
  replace p0 := below_cell j4 p0
  replace p1 := below_cell j4 p1
  replace p2 := below_cell j4 p2
  replace p3 := below_cell j4 p3
  replace lq := Nat.lt_of_lt_of_le lq j4.size
  replace lp := Nat.lt_of_lt_of_le lp j4.size
  go_wp2_with fail
  go_at_call 9
  refine (coded_any _).mono ?_
  rintro e w5 ⟨rfl, b5⟩
  have j5 : Below w4.heap.size w4 w5 := by (repeat (first | exact Below.refl _ _ | refine Below.alloc ?_ (by first | omega | (simp; done) | (simp; omega)) _ | refine Below.drew ?_ | refine Below.setCell ?_ (by first | omega | (simp; done) | (simp; omega)) _ | refine Below.trans ?_ (Below.mono (by assumption) (by first | omega | (simp; done) | (simp; omega)))))
  have t5 : Below w.heap.size w w5 := t4.trans (j5.mono t4.size)
  replace hx := hx.below j5
  replace hk := hk.below j5
  replace hd := hd.below j5
  replace hp := hp.below j5
  replace q0 := below_cell j5 q0
  replace p0 := below_cell j5 p0
  replace p1 := below_cell j5 p1
  replace p2 := below_cell j5 p2
  replace p3 := below_cell j5 p3
  replace lq := Nat.lt_of_lt_of_le lq j5.size
  replace lp := Nat.lt_of_lt_of_le lp j5.size
  go_wp2_with fail
  go_ret
  exact ⟨rfl, t5⟩
set_option maxRecDepth 100000 in
set_option maxHeartbeats 8000000 in
theorem topg_5 (ac : Option Addr) (ss : List ByteArray) (cc : Nat) (s wo : Int) (ak : Option Addr) (ks : List (Int × Int × Int)) (ck : Nat) (ad : Option Addr) (ds : List Int) (cd : Nat) (ap : Option Addr) (plain : List Int) (cp : Nat) (aw : Option Addr) (ws : List Int) (cw : Nat) (wh at_ er bits : Int) (w : World) (hx : StrsAt w ac ss) (hsl : ss.length ≤ 9223372036854775807) (hk : Recs3At w ak ks) (hd : IntsAt w ad ds) (hp : IntsAt w ap plain) (h1 : thinS ss = true) (h2 : faultS ss = 0) (h3 : (decide (ks.length ≤ 8) && decide (ds.length ≤ 11)) = true) (h4 : bookErr s wo ks ds = 0) (h5 : ¬ plain.length ≤ 10) :
    Calls Try.prog 3 #[.agg #[.slice ac ss.length cc], .agg #[.int .i64 s, .int .i64 wo, .slice ak ks.length ck, .slice ad ds.length cd], .slice ap plain.length cp, .slice aw ws.length cw, .int .u8 wh, .int .u8 at_, .int .u8 er, .int .u16 bits] w fun e w' => e = .returned (.bool true) ∧ Below w.heap.size w w' := by
  have H1 := Lib.hid h1
  have H2 := Lib.hid h2
  have H3 := Lib.hid h3
  have H4 := Lib.hid h4
  have f5 : (10 : Int) < (plain.length : Int) := by omega
  clear h1 h2 h3 h4 h5
  go_enter Try.func3, Try.ntmps3
  go_wp2_with fail
  go_at_call 4
  refine (f2Thin_eq true ac ss cc _ H1 (hx.below (by (repeat (first | exact Below.refl _ _ | refine Below.alloc ?_ (by first | omega | (simp; done) | (simp; omega)) _ | refine Below.drew ?_ | refine Below.setCell ?_ (by first | omega | (simp; done) | (simp; omega)) _ | refine Below.trans ?_ (Below.mono (by assumption) (by first | omega | (simp; done) | (simp; omega))))))) hsl).mono ?_
  rintro e w1 ⟨rfl, b1⟩
  have t1 : Below w.heap.size w w1 := by (repeat (first | exact Below.refl _ _ | refine Below.alloc ?_ (by first | omega | (simp; done) | (simp; omega)) _ | refine Below.drew ?_ | refine Below.setCell ?_ (by first | omega | (simp; done) | (simp; omega)) _ | refine Below.trans ?_ (Below.mono (by assumption) (by first | omega | (simp; done) | (simp; omega)))))
  replace hx := hx.below t1
  replace hk := hk.below t1
  replace hd := hd.below t1
  replace hp := hp.below t1
  have CB := ((Cells.new w #[.slice ac ss.length cc] 24).alloc (.cells #[.int .i64 s, .int .i64 wo, .slice ak ks.length ck, .slice ad ds.length cd] 28)).below b1
  have CA := (Cells.new' (w.alloc (.cells #[.slice ac ss.length cc] 24)) #[.int .i64 s, .int .i64 wo, .slice ak ks.length ck, .slice ad ds.length cd] 28 (w.heap.size + 1) (by simp)).below b1
  have q0 := CB.cell 0
  have p0 := CA.cell 0
  have p1 := CA.cell 1
  have p2 := CA.cell 2
  have p3 := CA.cell 3
  simp at q0 p0 p1 p2 p3
  have lq := CB.lt
  have lp := CA.lt
  clear CB CA
  go_wp2_with fail
  go_at_call 5
  refine (f2Fault_eq 0 ac ss cc _ H2 H1 hx).mono ?_
  rintro e w2 ⟨rfl, b2⟩
  have j2 : Below w1.heap.size w1 w2 := by (repeat (first | exact Below.refl _ _ | refine Below.alloc ?_ (by first | omega | (simp; done) | (simp; omega)) _ | refine Below.drew ?_ | refine Below.setCell ?_ (by first | omega | (simp; done) | (simp; omega)) _ | refine Below.trans ?_ (Below.mono (by assumption) (by first | omega | (simp; done) | (simp; omega)))))
  have t2 : Below w.heap.size w w2 := t1.trans (j2.mono t1.size)
  replace hx := hx.below j2
  replace hk := hk.below j2
  replace hd := hd.below j2
  replace hp := hp.below j2
  replace q0 := below_cell j2 q0
  replace p0 := below_cell j2 p0
  replace p1 := below_cell j2 p1
  replace p2 := below_cell j2 p2
  replace p3 := below_cell j2 p3
  replace lq := Nat.lt_of_lt_of_le lq j2.size
  replace lp := Nat.lt_of_lt_of_le lp j2.size
  go_wp2_with fail
  go_at_call 6
  refine (thin_eq s wo ak ks.length ck ad ds.length cd true H3 _).mono ?_
  rintro e w3 ⟨rfl, b3⟩
  have j3 : Below w2.heap.size w2 w3 := by (repeat (first | exact Below.refl _ _ | refine Below.alloc ?_ (by first | omega | (simp; done) | (simp; omega)) _ | refine Below.drew ?_ | refine Below.setCell ?_ (by first | omega | (simp; done) | (simp; omega)) _ | refine Below.trans ?_ (Below.mono (by assumption) (by first | omega | (simp; done) | (simp; omega)))))
  have t3 : Below w.heap.size w w3 := t2.trans (j3.mono t2.size)
  replace hx := hx.below j3
  replace hk := hk.below j3
  replace hd := hd.below j3
  replace hp := hp.below j3
  replace q0 := below_cell j3 q0
  replace p0 := below_cell j3 p0
  replace p1 := below_cell j3 p1
  replace p2 := below_cell j3 p2
  replace p3 := below_cell j3 p3
  replace lq := Nat.lt_of_lt_of_le lq j3.size
  replace lp := Nat.lt_of_lt_of_le lp j3.size
  go_wp2_with fail
  go_at_call 7
  refine (rf_eq s wo ak ks ck ad ds cd 0 _ H4 H3 hk hd).mono ?_
  rintro e w4 ⟨rfl, b4⟩
  have j4 : Below w3.heap.size w3 w4 := by (repeat (first | exact Below.refl _ _ | refine Below.alloc ?_ (by first | omega | (simp; done) | (simp; omega)) _ | refine Below.drew ?_ | refine Below.setCell ?_ (by first | omega | (simp; done) | (simp; omega)) _ | refine Below.trans ?_ (Below.mono (by assumption) (by first | omega | (simp; done) | (simp; omega)))))
  have t4 : Below w.heap.size w w4 := t3.trans (j4.mono t3.size)
  replace hx := hx.below j4
  replace hk := hk.below j4
  replace hd := hd.below j4
  replace hp := hp.below j4
  replace q0 := below_cell j4 q0
  replace p0 := below_cell j4 p0
  replace p1 := below_cell j4 p1
  replace p2 := below_cell j4 p2
  replace p3 := below_cell j4 p3
  replace lq := Nat.lt_of_lt_of_le lq j4.size
  replace lp := Nat.lt_of_lt_of_le lp j4.size
  go_wp2_with fail
  go_at_call 9
  refine (coded_any _).mono ?_
  rintro e w5 ⟨rfl, b5⟩
  have j5 : Below w4.heap.size w4 w5 := by (repeat (first | exact Below.refl _ _ | refine Below.alloc ?_ (by first | omega | (simp; done) | (simp; omega)) _ | refine Below.drew ?_ | refine Below.setCell ?_ (by first | omega | (simp; done) | (simp; omega)) _ | refine Below.trans ?_ (Below.mono (by assumption) (by first | omega | (simp; done) | (simp; omega)))))
  have t5 : Below w.heap.size w w5 := t4.trans (j5.mono t4.size)
  replace hx := hx.below j5
  replace hk := hk.below j5
  replace hd := hd.below j5
  replace hp := hp.below j5
  replace q0 := below_cell j5 q0
  replace p0 := below_cell j5 p0
  replace p1 := below_cell j5 p1
  replace p2 := below_cell j5 p2
  replace p3 := below_cell j5 p3
  replace lq := Nat.lt_of_lt_of_le lq j5.size
  replace lp := Nat.lt_of_lt_of_le lp j5.size
  go_wp2_with fail
  go_ret
  exact ⟨rfl, t5⟩
set_option maxRecDepth 100000 in
set_option maxHeartbeats 8000000 in
theorem topg_6 (ac : Option Addr) (ss : List ByteArray) (cc : Nat) (s wo : Int) (ak : Option Addr) (ks : List (Int × Int × Int)) (ck : Nat) (ad : Option Addr) (ds : List Int) (cd : Nat) (ap : Option Addr) (plain : List Int) (cp : Nat) (aw : Option Addr) (ws : List Int) (cw : Nat) (wh at_ er bits : Int) (w : World) (hx : StrsAt w ac ss) (hsl : ss.length ≤ 9223372036854775807) (hk : Recs3At w ak ks) (hd : IntsAt w ad ds) (hp : IntsAt w ap plain) (h1 : thinS ss = true) (h2 : faultS ss = 0) (h3 : (decide (ks.length ≤ 8) && decide (ds.length ≤ 11)) = true) (h4 : bookErr s wo ks ds = 0) (h5 : plain.length ≤ 10) (h6 : plain.length = 0) :
    Calls Try.prog 3 #[.agg #[.slice ac ss.length cc], .agg #[.int .i64 s, .int .i64 wo, .slice ak ks.length ck, .slice ad ds.length cd], .slice ap plain.length cp, .slice aw ws.length cw, .int .u8 wh, .int .u8 at_, .int .u8 er, .int .u16 bits] w fun e w' => e = .returned (.bool true) ∧ Below w.heap.size w w' := by
  have H1 := Lib.hid h1
  have H2 := Lib.hid h2
  have H3 := Lib.hid h3
  have H4 := Lib.hid h4
  have f5 : ¬ (10 : Int) < (plain.length : Int) := by omega
  have f6 : ((plain.length : Int) == 0) = true := by rw [h6]; rfl
  clear h1 h2 h3 h4 h6
  go_enter Try.func3, Try.ntmps3
  go_wp2_with fail
  go_at_call 4
  refine (f2Thin_eq true ac ss cc _ H1 (hx.below (by (repeat (first | exact Below.refl _ _ | refine Below.alloc ?_ (by first | omega | (simp; done) | (simp; omega)) _ | refine Below.drew ?_ | refine Below.setCell ?_ (by first | omega | (simp; done) | (simp; omega)) _ | refine Below.trans ?_ (Below.mono (by assumption) (by first | omega | (simp; done) | (simp; omega))))))) hsl).mono ?_
  rintro e w1 ⟨rfl, b1⟩
  have t1 : Below w.heap.size w w1 := by (repeat (first | exact Below.refl _ _ | refine Below.alloc ?_ (by first | omega | (simp; done) | (simp; omega)) _ | refine Below.drew ?_ | refine Below.setCell ?_ (by first | omega | (simp; done) | (simp; omega)) _ | refine Below.trans ?_ (Below.mono (by assumption) (by first | omega | (simp; done) | (simp; omega)))))
  replace hx := hx.below t1
  replace hk := hk.below t1
  replace hd := hd.below t1
  replace hp := hp.below t1
  have CB := ((Cells.new w #[.slice ac ss.length cc] 24).alloc (.cells #[.int .i64 s, .int .i64 wo, .slice ak ks.length ck, .slice ad ds.length cd] 28)).below b1
  have CA := (Cells.new' (w.alloc (.cells #[.slice ac ss.length cc] 24)) #[.int .i64 s, .int .i64 wo, .slice ak ks.length ck, .slice ad ds.length cd] 28 (w.heap.size + 1) (by simp)).below b1
  have q0 := CB.cell 0
  have p0 := CA.cell 0
  have p1 := CA.cell 1
  have p2 := CA.cell 2
  have p3 := CA.cell 3
  simp at q0 p0 p1 p2 p3
  have lq := CB.lt
  have lp := CA.lt
  clear CB CA
  go_wp2_with fail
  go_at_call 5
  refine (f2Fault_eq 0 ac ss cc _ H2 H1 hx).mono ?_
  rintro e w2 ⟨rfl, b2⟩
  have j2 : Below w1.heap.size w1 w2 := by (repeat (first | exact Below.refl _ _ | refine Below.alloc ?_ (by first | omega | (simp; done) | (simp; omega)) _ | refine Below.drew ?_ | refine Below.setCell ?_ (by first | omega | (simp; done) | (simp; omega)) _ | refine Below.trans ?_ (Below.mono (by assumption) (by first | omega | (simp; done) | (simp; omega)))))
  have t2 : Below w.heap.size w w2 := t1.trans (j2.mono t1.size)
  replace hx := hx.below j2
  replace hk := hk.below j2
  replace hd := hd.below j2
  replace hp := hp.below j2
  replace q0 := below_cell j2 q0
  replace p0 := below_cell j2 p0
  replace p1 := below_cell j2 p1
  replace p2 := below_cell j2 p2
  replace p3 := below_cell j2 p3
  replace lq := Nat.lt_of_lt_of_le lq j2.size
  replace lp := Nat.lt_of_lt_of_le lp j2.size
  go_wp2_with fail
  go_at_call 6
  refine (thin_eq s wo ak ks.length ck ad ds.length cd true H3 _).mono ?_
  rintro e w3 ⟨rfl, b3⟩
  have j3 : Below w2.heap.size w2 w3 := by (repeat (first | exact Below.refl _ _ | refine Below.alloc ?_ (by first | omega | (simp; done) | (simp; omega)) _ | refine Below.drew ?_ | refine Below.setCell ?_ (by first | omega | (simp; done) | (simp; omega)) _ | refine Below.trans ?_ (Below.mono (by assumption) (by first | omega | (simp; done) | (simp; omega)))))
  have t3 : Below w.heap.size w w3 := t2.trans (j3.mono t2.size)
  replace hx := hx.below j3
  replace hk := hk.below j3
  replace hd := hd.below j3
  replace hp := hp.below j3
  replace q0 := below_cell j3 q0
  replace p0 := below_cell j3 p0
  replace p1 := below_cell j3 p1
  replace p2 := below_cell j3 p2
  replace p3 := below_cell j3 p3
  replace lq := Nat.lt_of_lt_of_le lq j3.size
  replace lp := Nat.lt_of_lt_of_le lp j3.size
  go_wp2_with fail
  go_at_call 7
  refine (rf_eq s wo ak ks ck ad ds cd 0 _ H4 H3 hk hd).mono ?_
  rintro e w4 ⟨rfl, b4⟩
  have j4 : Below w3.heap.size w3 w4 := by (repeat (first | exact Below.refl _ _ | refine Below.alloc ?_ (by first | omega | (simp; done) | (simp; omega)) _ | refine Below.drew ?_ | refine Below.setCell ?_ (by first | omega | (simp; done) | (simp; omega)) _ | refine Below.trans ?_ (Below.mono (by assumption) (by first | omega | (simp; done) | (simp; omega)))))
  have t4 : Below w.heap.size w w4 := t3.trans (j4.mono t3.size)
  replace hx := hx.below j4
  replace hk := hk.below j4
  replace hd := hd.below j4
  replace hp := hp.below j4
  replace q0 := below_cell j4 q0
  replace p0 := below_cell j4 p0
  replace p1 := below_cell j4 p1
  replace p2 := below_cell j4 p2
  replace p3 := below_cell j4 p3
  replace lq := Nat.lt_of_lt_of_le lq j4.size
  replace lp := Nat.lt_of_lt_of_le lp j4.size
  go_wp2_with fail
  go_at_call 9
  refine (coded_any _).mono ?_
  rintro e w5 ⟨rfl, b5⟩
  have j5 : Below w4.heap.size w4 w5 := by (repeat (first | exact Below.refl _ _ | refine Below.alloc ?_ (by first | omega | (simp; done) | (simp; omega)) _ | refine Below.drew ?_ | refine Below.setCell ?_ (by first | omega | (simp; done) | (simp; omega)) _ | refine Below.trans ?_ (Below.mono (by assumption) (by first | omega | (simp; done) | (simp; omega)))))
  have t5 : Below w.heap.size w w5 := t4.trans (j5.mono t4.size)
  replace hx := hx.below j5
  replace hk := hk.below j5
  replace hd := hd.below j5
  replace hp := hp.below j5
  replace q0 := below_cell j5 q0
  replace p0 := below_cell j5 p0
  replace p1 := below_cell j5 p1
  replace p2 := below_cell j5 p2
  replace p3 := below_cell j5 p3
  replace lq := Nat.lt_of_lt_of_le lq j5.size
  replace lp := Nat.lt_of_lt_of_le lp j5.size
  go_wp2_with fail
  go_ret
  exact ⟨rfl, t5⟩
set_option maxRecDepth 100000 in
set_option maxHeartbeats 8000000 in
theorem topg_7 (ac : Option Addr) (ss : List ByteArray) (cc : Nat) (s wo : Int) (ak : Option Addr) (ks : List (Int × Int × Int)) (ck : Nat) (ad : Option Addr) (ds : List Int) (cd : Nat) (ap : Option Addr) (plain : List Int) (cp : Nat) (aw : Option Addr) (ws : List Int) (cw : Nat) (wh at_ er bits : Int) (w : World) (hx : StrsAt w ac ss) (hsl : ss.length ≤ 9223372036854775807) (hk : Recs3At w ak ks) (hd : IntsAt w ad ds) (hp : IntsAt w ap plain) (h1 : thinS ss = true) (h2 : faultS ss = 0) (h3 : (decide (ks.length ≤ 8) && decide (ds.length ≤ 11)) = true) (h4 : bookErr s wo ks ds = 0) (h5 : plain.length ≤ 10) (h6 : plain.length ≠ 0) (h7 : plain.all (plainOk s) = false) :
    Calls Try.prog 3 #[.agg #[.slice ac ss.length cc], .agg #[.int .i64 s, .int .i64 wo, .slice ak ks.length ck, .slice ad ds.length cd], .slice ap plain.length cp, .slice aw ws.length cw, .int .u8 wh, .int .u8 at_, .int .u8 er, .int .u16 bits] w fun e w' => e = .returned (.bool true) ∧ Below w.heap.size w w' := by
  have H1 := Lib.hid h1
  have H2 := Lib.hid h2
  have H3 := Lib.hid h3
  have H4 := Lib.hid h4
  have f5 : ¬ (10 : Int) < (plain.length : Int) := by omega
  have f6 : ((plain.length : Int) == 0) = false := by rw [beq_eq_false_iff_ne]; omega
  have H7 := Lib.hid h7
  clear h1 h2 h3 h4 h6 h7
  go_enter Try.func3, Try.ntmps3
  go_wp2_with fail
  go_at_call 4
  refine (f2Thin_eq true ac ss cc _ H1 (hx.below (by (repeat (first | exact Below.refl _ _ | refine Below.alloc ?_ (by first | omega | (simp; done) | (simp; omega)) _ | refine Below.drew ?_ | refine Below.setCell ?_ (by first | omega | (simp; done) | (simp; omega)) _ | refine Below.trans ?_ (Below.mono (by assumption) (by first | omega | (simp; done) | (simp; omega))))))) hsl).mono ?_
  rintro e w1 ⟨rfl, b1⟩
  have t1 : Below w.heap.size w w1 := by (repeat (first | exact Below.refl _ _ | refine Below.alloc ?_ (by first | omega | (simp; done) | (simp; omega)) _ | refine Below.drew ?_ | refine Below.setCell ?_ (by first | omega | (simp; done) | (simp; omega)) _ | refine Below.trans ?_ (Below.mono (by assumption) (by first | omega | (simp; done) | (simp; omega)))))
  replace hx := hx.below t1
  replace hk := hk.below t1
  replace hd := hd.below t1
  replace hp := hp.below t1
  have CB := ((Cells.new w #[.slice ac ss.length cc] 24).alloc (.cells #[.int .i64 s, .int .i64 wo, .slice ak ks.length ck, .slice ad ds.length cd] 28)).below b1
  have CA := (Cells.new' (w.alloc (.cells #[.slice ac ss.length cc] 24)) #[.int .i64 s, .int .i64 wo, .slice ak ks.length ck, .slice ad ds.length cd] 28 (w.heap.size + 1) (by simp)).below b1
  have q0 := CB.cell 0
  have p0 := CA.cell 0
  have p1 := CA.cell 1
  have p2 := CA.cell 2
  have p3 := CA.cell 3
  simp at q0 p0 p1 p2 p3
  have lq := CB.lt
  have lp := CA.lt
  clear CB CA
  go_wp2_with fail
  go_at_call 5
  refine (f2Fault_eq 0 ac ss cc _ H2 H1 hx).mono ?_
  rintro e w2 ⟨rfl, b2⟩
  have j2 : Below w1.heap.size w1 w2 := by (repeat (first | exact Below.refl _ _ | refine Below.alloc ?_ (by first | omega | (simp; done) | (simp; omega)) _ | refine Below.drew ?_ | refine Below.setCell ?_ (by first | omega | (simp; done) | (simp; omega)) _ | refine Below.trans ?_ (Below.mono (by assumption) (by first | omega | (simp; done) | (simp; omega)))))
  have t2 : Below w.heap.size w w2 := t1.trans (j2.mono t1.size)
  replace hx := hx.below j2
  replace hk := hk.below j2
  replace hd := hd.below j2
  replace hp := hp.below j2
  replace q0 := below_cell j2 q0
  replace p0 := below_cell j2 p0
  replace p1 := below_cell j2 p1
  replace p2 := below_cell j2 p2
  replace p3 := below_cell j2 p3
  replace lq := Nat.lt_of_lt_of_le lq j2.size
  replace lp := Nat.lt_of_lt_of_le lp j2.size
  go_wp2_with fail
  go_at_call 6
  refine (thin_eq s wo ak ks.length ck ad ds.length cd true H3 _).mono ?_
  rintro e w3 ⟨rfl, b3⟩
  have j3 : Below w2.heap.size w2 w3 := by (repeat (first | exact Below.refl _ _ | refine Below.alloc ?_ (by first | omega | (simp; done) | (simp; omega)) _ | refine Below.drew ?_ | refine Below.setCell ?_ (by first | omega | (simp; done) | (simp; omega)) _ | refine Below.trans ?_ (Below.mono (by assumption) (by first | omega | (simp; done) | (simp; omega)))))
  have t3 : Below w.heap.size w w3 := t2.trans (j3.mono t2.size)
  replace hx := hx.below j3
  replace hk := hk.below j3
  replace hd := hd.below j3
  replace hp := hp.below j3
  replace q0 := below_cell j3 q0
  replace p0 := below_cell j3 p0
  replace p1 := below_cell j3 p1
  replace p2 := below_cell j3 p2
  replace p3 := below_cell j3 p3
  replace lq := Nat.lt_of_lt_of_le lq j3.size
  replace lp := Nat.lt_of_lt_of_le lp j3.size
  go_wp2_with fail
  go_at_call 7
  refine (rf_eq s wo ak ks ck ad ds cd 0 _ H4 H3 hk hd).mono ?_
  rintro e w4 ⟨rfl, b4⟩
  have j4 : Below w3.heap.size w3 w4 := by (repeat (first | exact Below.refl _ _ | refine Below.alloc ?_ (by first | omega | (simp; done) | (simp; omega)) _ | refine Below.drew ?_ | refine Below.setCell ?_ (by first | omega | (simp; done) | (simp; omega)) _ | refine Below.trans ?_ (Below.mono (by assumption) (by first | omega | (simp; done) | (simp; omega)))))
  have t4 : Below w.heap.size w w4 := t3.trans (j4.mono t3.size)
  replace hx := hx.below j4
  replace hk := hk.below j4
  replace hd := hd.below j4
  replace hp := hp.below j4
  replace q0 := below_cell j4 q0
  replace p0 := below_cell j4 p0
  replace p1 := below_cell j4 p1
  replace p2 := below_cell j4 p2
  replace p3 := below_cell j4 p3
  replace lq := Nat.lt_of_lt_of_le lq j4.size
  replace lp := Nat.lt_of_lt_of_le lp j4.size
  go_wp2_with fail
  go_at_call 8
  refine (pl_eq s wo ak ks ck ad ds cd ap plain cp false H7 H4 _ hp h5).mono ?_
  rintro e w5 ⟨rfl, b5⟩
  have j5 : Below w4.heap.size w4 w5 := by (repeat (first | exact Below.refl _ _ | refine Below.alloc ?_ (by first | omega | (simp; done) | (simp; omega)) _ | refine Below.drew ?_ | refine Below.setCell ?_ (by first | omega | (simp; done) | (simp; omega)) _ | refine Below.trans ?_ (Below.mono (by assumption) (by first | omega | (simp; done) | (simp; omega)))))
  have t5 : Below w.heap.size w w5 := t4.trans (j5.mono t4.size)
  replace hx := hx.below j5
  replace hk := hk.below j5
  replace hd := hd.below j5
  replace hp := hp.below j5
  replace q0 := below_cell j5 q0
  replace p0 := below_cell j5 p0
  replace p1 := below_cell j5 p1
  replace p2 := below_cell j5 p2
  replace p3 := below_cell j5 p3
  replace lq := Nat.lt_of_lt_of_le lq j5.size
  replace lp := Nat.lt_of_lt_of_le lp j5.size
  go_wp2_with fail
  go_at_call 9
  refine (coded_any _).mono ?_
  rintro e w6 ⟨rfl, b6⟩
  have j6 : Below w5.heap.size w5 w6 := by (repeat (first | exact Below.refl _ _ | refine Below.alloc ?_ (by first | omega | (simp; done) | (simp; omega)) _ | refine Below.drew ?_ | refine Below.setCell ?_ (by first | omega | (simp; done) | (simp; omega)) _ | refine Below.trans ?_ (Below.mono (by assumption) (by first | omega | (simp; done) | (simp; omega)))))
  have t6 : Below w.heap.size w w6 := t5.trans (j6.mono t5.size)
  replace hx := hx.below j6
  replace hk := hk.below j6
  replace hd := hd.below j6
  replace hp := hp.below j6
  replace q0 := below_cell j6 q0
  replace p0 := below_cell j6 p0
  replace p1 := below_cell j6 p1
  replace p2 := below_cell j6 p2
  replace p3 := below_cell j6 p3
  replace lq := Nat.lt_of_lt_of_le lq j6.size
  replace lp := Nat.lt_of_lt_of_le lp j6.size
  go_wp2_with fail
  go_ret
  exact ⟨rfl, t6⟩
set_option maxRecDepth 100000 in
set_option maxHeartbeats 8000000 in
theorem topg_8 (ac : Option Addr) (ss : List ByteArray) (cc : Nat) (s wo : Int) (ak : Option Addr) (ks : List (Int × Int × Int)) (ck : Nat) (ad : Option Addr) (ds : List Int) (cd : Nat) (ap : Option Addr) (plain : List Int) (cp : Nat) (aw : Option Addr) (ws : List Int) (cw : Nat) (wh at_ er bits : Int) (w : World) (hx : StrsAt w ac ss) (hsl : ss.length ≤ 9223372036854775807) (hk : Recs3At w ak ks) (hd : IntsAt w ad ds) (hp : IntsAt w ap plain) (h1 : thinS ss = true) (h2 : faultS ss = 0) (h3 : (decide (ks.length ≤ 8) && decide (ds.length ≤ 11)) = true) (h4 : bookErr s wo ks ds = 0) (h5 : plain.length ≤ 10) (h6 : plain.length ≠ 0) (h7 : plain.all (plainOk s) = true) (h8 : ¬ 3 ≤ ss.length) :
    Calls Try.prog 3 #[.agg #[.slice ac ss.length cc], .agg #[.int .i64 s, .int .i64 wo, .slice ak ks.length ck, .slice ad ds.length cd], .slice ap plain.length cp, .slice aw ws.length cw, .int .u8 wh, .int .u8 at_, .int .u8 er, .int .u16 bits] w fun e w' => e = .returned (.bool true) ∧ Below w.heap.size w w' := by
  have H1 := Lib.hid h1
  have H2 := Lib.hid h2
  have H3 := Lib.hid h3
  have H4 := Lib.hid h4
  have f5 : ¬ (10 : Int) < (plain.length : Int) := by omega
  have f6 : ((plain.length : Int) == 0) = false := by rw [beq_eq_false_iff_ne]; omega
  have H7 := Lib.hid h7
  have f8 : (ss.length : Int) < 3 := by omega
  clear h1 h2 h3 h4 h6 h7 h8
  go_enter Try.func3, Try.ntmps3
  go_wp2_with fail
  go_at_call 4
  refine (f2Thin_eq true ac ss cc _ H1 (hx.below (by (repeat (first | exact Below.refl _ _ | refine Below.alloc ?_ (by first | omega | (simp; done) | (simp; omega)) _ | refine Below.drew ?_ | refine Below.setCell ?_ (by first | omega | (simp; done) | (simp; omega)) _ | refine Below.trans ?_ (Below.mono (by assumption) (by first | omega | (simp; done) | (simp; omega))))))) hsl).mono ?_
  rintro e w1 ⟨rfl, b1⟩
  have t1 : Below w.heap.size w w1 := by (repeat (first | exact Below.refl _ _ | refine Below.alloc ?_ (by first | omega | (simp; done) | (simp; omega)) _ | refine Below.drew ?_ | refine Below.setCell ?_ (by first | omega | (simp; done) | (simp; omega)) _ | refine Below.trans ?_ (Below.mono (by assumption) (by first | omega | (simp; done) | (simp; omega)))))
  replace hx := hx.below t1
  replace hk := hk.below t1
  replace hd := hd.below t1
  replace hp := hp.below t1
  have CB := ((Cells.new w #[.slice ac ss.length cc] 24).alloc (.cells #[.int .i64 s, .int .i64 wo, .slice ak ks.length ck, .slice ad ds.length cd] 28)).below b1
  have CA := (Cells.new' (w.alloc (.cells #[.slice ac ss.length cc] 24)) #[.int .i64 s, .int .i64 wo, .slice ak ks.length ck, .slice ad ds.length cd] 28 (w.heap.size + 1) (by simp)).below b1
  have q0 := CB.cell 0
  have p0 := CA.cell 0
  have p1 := CA.cell 1
  have p2 := CA.cell 2
  have p3 := CA.cell 3
  simp at q0 p0 p1 p2 p3
  have lq := CB.lt
  have lp := CA.lt
  clear CB CA
  go_wp2_with fail
  go_at_call 5
  refine (f2Fault_eq 0 ac ss cc _ H2 H1 hx).mono ?_
  rintro e w2 ⟨rfl, b2⟩
  have j2 : Below w1.heap.size w1 w2 := by (repeat (first | exact Below.refl _ _ | refine Below.alloc ?_ (by first | omega | (simp; done) | (simp; omega)) _ | refine Below.drew ?_ | refine Below.setCell ?_ (by first | omega | (simp; done) | (simp; omega)) _ | refine Below.trans ?_ (Below.mono (by assumption) (by first | omega | (simp; done) | (simp; omega)))))
  have t2 : Below w.heap.size w w2 := t1.trans (j2.mono t1.size)
  replace hx := hx.below j2
  replace hk := hk.below j2
  replace hd := hd.below j2
  replace hp := hp.below j2
  replace q0 := below_cell j2 q0
  replace p0 := below_cell j2 p0
  replace p1 := below_cell j2 p1
  replace p2 := below_cell j2 p2
  replace p3 := below_cell j2 p3
  replace lq := Nat.lt_of_lt_of_le lq j2.size
  replace lp := Nat.lt_of_lt_of_le lp j2.size
  go_wp2_with fail
  go_at_call 6
  refine (thin_eq s wo ak ks.length ck ad ds.length cd true H3 _).mono ?_
  rintro e w3 ⟨rfl, b3⟩
  have j3 : Below w2.heap.size w2 w3 := by (repeat (first | exact Below.refl _ _ | refine Below.alloc ?_ (by first | omega | (simp; done) | (simp; omega)) _ | refine Below.drew ?_ | refine Below.setCell ?_ (by first | omega | (simp; done) | (simp; omega)) _ | refine Below.trans ?_ (Below.mono (by assumption) (by first | omega | (simp; done) | (simp; omega)))))
  have t3 : Below w.heap.size w w3 := t2.trans (j3.mono t2.size)
  replace hx := hx.below j3
  replace hk := hk.below j3
  replace hd := hd.below j3
  replace hp := hp.below j3
  replace q0 := below_cell j3 q0
  replace p0 := below_cell j3 p0
  replace p1 := below_cell j3 p1
  replace p2 := below_cell j3 p2
  replace p3 := below_cell j3 p3
  replace lq := Nat.lt_of_lt_of_le lq j3.size
  replace lp := Nat.lt_of_lt_of_le lp j3.size
  go_wp2_with fail
  go_at_call 7
  refine (rf_eq s wo ak ks ck ad ds cd 0 _ H4 H3 hk hd).mono ?_
  rintro e w4 ⟨rfl, b4⟩
  have j4 : Below w3.heap.size w3 w4 := by (repeat (first | exact Below.refl _ _ | refine Below.alloc ?_ (by first | omega | (simp; done) | (simp; omega)) _ | refine Below.drew ?_ | refine Below.setCell ?_ (by first | omega | (simp; done) | (simp; omega)) _ | refine Below.trans ?_ (Below.mono (by assumption) (by first | omega | (simp; done) | (simp; omega)))))
  have t4 : Below w.heap.size w w4 := t3.trans (j4.mono t3.size)
  replace hx := hx.below j4
  replace hk := hk.below j4
  replace hd := hd.below j4
  replace hp := hp.below j4
  replace q0 := below_cell j4 q0
  replace p0 := below_cell j4 p0
  replace p1 := below_cell j4 p1
  replace p2 := below_cell j4 p2
  replace p3 := below_cell j4 p3
  replace lq := Nat.lt_of_lt_of_le lq j4.size
  replace lp := Nat.lt_of_lt_of_le lp j4.size
  go_wp2_with fail
  go_at_call 8
  refine (pl_eq s wo ak ks ck ad ds cd ap plain cp true H7 H4 _ hp h5).mono ?_
  rintro e w5 ⟨rfl, b5⟩
  have j5 : Below w4.heap.size w4 w5 := by (repeat (first | exact Below.refl _ _ | refine Below.alloc ?_ (by first | omega | (simp; done) | (simp; omega)) _ | refine Below.drew ?_ | refine Below.setCell ?_ (by first | omega | (simp; done) | (simp; omega)) _ | refine Below.trans ?_ (Below.mono (by assumption) (by first | omega | (simp; done) | (simp; omega)))))
  have t5 : Below w.heap.size w w5 := t4.trans (j5.mono t4.size)
  replace hx := hx.below j5
  replace hk := hk.below j5
  replace hd := hd.below j5
  replace hp := hp.below j5
  replace q0 := below_cell j5 q0
  replace p0 := below_cell j5 p0
  replace p1 := below_cell j5 p1
  replace p2 := below_cell j5 p2
  replace p3 := below_cell j5 p3
  replace lq := Nat.lt_of_lt_of_le lq j5.size
  replace lp := Nat.lt_of_lt_of_le lp j5.size
  go_wp2_with fail
  go_at_call 9
  refine (coded_any _).mono ?_
  rintro e w6 ⟨rfl, b6⟩
  have j6 : Below w5.heap.size w5 w6 := by (repeat (first | exact Below.refl _ _ | refine Below.alloc ?_ (by first | omega | (simp; done) | (simp; omega)) _ | refine Below.drew ?_ | refine Below.setCell ?_ (by first | omega | (simp; done) | (simp; omega)) _ | refine Below.trans ?_ (Below.mono (by assumption) (by first | omega | (simp; done) | (simp; omega)))))
  have t6 : Below w.heap.size w w6 := t5.trans (j6.mono t5.size)
  replace hx := hx.below j6
  replace hk := hk.below j6
  replace hd := hd.below j6
  replace hp := hp.below j6
  replace q0 := below_cell j6 q0
  replace p0 := below_cell j6 p0
  replace p1 := below_cell j6 p1
  replace p2 := below_cell j6 p2
  replace p3 := below_cell j6 p3
  replace lq := Nat.lt_of_lt_of_le lq j6.size
  replace lp := Nat.lt_of_lt_of_le lp j6.size
  go_wp2_with fail
  go_ret
  exact ⟨rfl, t6⟩
end Go.Proofs.Ytnofcpihkglmmaa
