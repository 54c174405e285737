/- copies' reference: Sure · copies' reference: Least · copies' reference: Finishes · copies, plain: the ends of Finishes are the spans -/
import Derived.Test.YtfclemnkcpadpaaRm
import Derived.Test.YtfclemnkcpadpaaLf
import Derived.Test.YtfclemnkcpadpaaPc
import Derived.Test.YtfclemnkcpadpaaKu
import Derived.Test.YtfclemnkcpadpaaRd
import Derived.Deep.WholeRow
namespace Go.Proofs.Ytfclemnkcpadpaa
set_option linter.unusedVariables false
set_option linter.unusedSimpArgs false
set_option linter.unnecessarySimpa false
open Go.RowKit Go.Flow Go.Shelf

theorem ends_com {p : Post} (h0 : postErr p = 0) {i : Nat} (hi : i < p.sends.length) : endsN (comF p i) 102 = (earliestF p i, latestF p i) := by
  obtain ⟨m, hm, e1, c1, h1⟩ := latest_spec h0 hi
  obtain ⟨m', hm', e2, c2, h2⟩ := earliest_spec h0 hi
  rw [e1, e2]
  exact endsN_spec (by rw [comF_can h0 hi hm']; exact c2) (by rw [comF_can h0 hi hm]; exact c1) (fun n hn hf => h2 n hn (by rw [← comF_can h0 hi hn]; exact hf)) (fun n hn hf => h1 n hn (by rw [← comF_can h0 hi hn]; exact hf)) hm
theorem refEnds_eq (F : Hrs) (lo hi : Int) (h : Hid (endsN F 102 = (lo, hi))) (w : World) :
    Calls Try.prog 35 #[.agg (setA F)] w fun e w' => e = .returned (.tuple #[.agg #[.int .i64 lo, .int .i64 hi], .bool (decide (0 ≤ hi))]) ∧ Below w.heap.size w w' := by
  have := refEnds_any F w
  rw [h.out] at this
  exact this
set_option maxRecDepth 100000 in
set_option maxHeartbeats 4000000 in
theorem refSure_any (a : Option Addr) (c : Nat) (ar : Option Addr) (cr : Nat) (p : Post) (i : Nat) (w : World) (hs : IntsAt w a p.sends) (hr : RoutesAt w ar p.routes) (h0 : postErr p = 0) (hi : i < p.sends.length) :
    Calls Try.prog 38 #[.agg #[.slice a p.sends.length c, .slice ar p.routes.length cr, .int .i64 p.pat], .int .i64 (i : Int)] w fun e w' => e = .returned (.bool (sureB p i)) ∧ Below w.heap.size w w' := by
  have hhs := post_hours h0
  have lS := (postErr_ok h0).1
  have H0 := Lib.hid h0
  have HE := Lib.hid (ends_com h0 hi)
  clear h0
  have hiI : (i : Int) < (p.sends.length : Int) := by omega
  obtain ⟨bS, offS, rfl, hbS, s0⟩ := hs i hi
  have s0' : w.cell? ⟨bS, offS + i, none⟩ = some (.int .i64 p.sends[i]) := s0.trans (by simp [hi])
  have sb := hhs.s _ (List.getElem_mem hi)
  have pb := hhs.p
  have Hsu : Hid (sureB p i = decide (latestF p i ≤ p.sends[i] + p.pat)) := Lib.hid (by unfold sureB; rw [show p.sends.getD i 0 = p.sends[i] by simp [hi]])
  clear s0 hhs
  obtain ⟨s, hse⟩ : ∃ s, p.sends[i] = s := ⟨_, rfl⟩
  obtain ⟨lo, hlo⟩ : ∃ x, earliestF p i = x := ⟨_, rfl⟩
  obtain ⟨la, hla⟩ : ∃ x, latestF p i = x := ⟨_, rfl⟩
  obtain ⟨F, hF⟩ : ∃ F, comF p i = F := ⟨_, rfl⟩
  rw [hse] at s0' sb Hsu
  rw [hla] at Hsu HE
  rw [hlo, hF] at HE
  have HF := Lib.hid hF
  have hw : IntKind.i64.wrap (s + p.pat) = s + p.pat := IntWalk.i64_in _ (by omega)
  clear hse hlo hla hF
  go_enter Try.func38, Try.ntmps38
  go_wp2_with fail
  go_at_call 77
  refine (refComings_any (some ⟨bS, offS, none⟩) c ar cr p i _ (hs.below (by (repeat (first | exact Below.refl _ _ | refine Below.alloc ?_ (by first | omega | (simp; done) | (simp; omega)) _ | refine Below.drew ?_ | refine Below.setCell ?_ (by first | omega | (simp; done) | (simp; omega)) _ | refine Below.trans ?_ (Below.mono (by assumption) (by first | omega | (simp; done) | (simp; omega))))))) (hr.below (by (repeat (first | exact Below.refl _ _ | refine Below.alloc ?_ (by first | omega | (simp; done) | (simp; omega)) _ | refine Below.drew ?_ | refine Below.setCell ?_ (by first | omega | (simp; done) | (simp; omega)) _ | refine Below.trans ?_ (Below.mono (by assumption) (by first | omega | (simp; done) | (simp; omega))))))) H0.out hi).mono ?_
  rintro e w1 ⟨rfl, b1⟩
  rw [HF.out]
  have t1 : Below w.heap.size w w1 := by (repeat (first | exact Below.refl _ _ | refine Below.alloc ?_ (by first | omega | (simp; done) | (simp; omega)) _ | refine Below.drew ?_ | refine Below.setCell ?_ (by first | omega | (simp; done) | (simp; omega)) _ | refine Below.trans ?_ (Below.mono (by assumption) (by first | omega | (simp; done) | (simp; omega)))))
  have q0 := box_cells b1 0 rfl
  have q2 := box_cells b1 2 rfl
  have lB := cell_ltK q0
  go_wp2_with fail
  go_at_call 35
  refine (refEnds_eq F lo la HE _).mono ?_
  rintro e w2 ⟨rfl, b2⟩
  have t2 : Below w.heap.size w w2 := t1.trans (b2.mono t1.size)
  replace q0 := below_cell b2 q0
  replace q2 := below_cell b2 q2
  replace lB := Nat.lt_of_lt_of_le lB b2.size
  go_wp2_with fail
  obtain ⟨W3, hW3⟩ : ∃ z : World, z = w2.alloc (.cells #[.int .i64 lo, .int .i64 la] 64) := ⟨_, rfl⟩
  have b3 : Below w2.heap.size w2 W3 := by rw [hW3]; exact (Below.refl _ _).alloc (Nat.le_refl _) _
  have C3 : Cells W3 w2.heap.size #[.int .i64 lo, .int .i64 la] 64 := by rw [hW3]; exact Cells.new _ _ _
  have t3 : Below w.heap.size w W3 := t2.trans (b3.mono t2.size)
  rw [← hW3]
  clear hW3
  have z1 := C3.cell 1
  have lZ := C3.lt
  simp at z1
  have q0' := below_cell b3 q0
  have q2' := below_cell b3 q2
  have lB' := Nat.lt_of_lt_of_le lB b3.size
  have s3 := below_cell t3 s0'
  have ls3 := cell_ltK s3
  clear q0 q2 lB
  (refine wp_region_ext 11 (by kernel_rfl) (by kernel_rfl) ?_; simp only [List.take_succ_cons, List.take_zero, List.drop_succ_cons, List.drop_zero]; (repeat (go_big_quiet_step ((fail)))); refine wpQuiet_nil ?_; rintro _ ⟨ex, rfl⟩; have hex := ex.below; have hexz := ex.size; (try simp at hexz); (try (have hy0 : w.heap.size < ex.to.heap.size := by omega)); (try (have hy1 : w.heap.size + 1 < ex.to.heap.size := by omega)); (try (have hy2 : w.heap.size + 2 < ex.to.heap.size := by omega)))
  go_wp2
  go_ret
  rw [Hsu.out]
  exact ⟨rfl, t3.trans (ex.below.mono t3.size)⟩
end Go.Proofs.Ytfclemnkcpadpaa

namespace Go.Proofs.Ytfclemnkcpadpaa
set_option linter.unusedVariables false
set_option linter.unusedSimpArgs false
set_option linter.unnecessarySimpa false
open Go.RowKit Go.Flow Go.Shelf

def lrF (p : Post) : Int := match leastF p with
  | some k => (k : Int)
  | none => -1
theorem lrF_some {p : Post} {k : Nat} (h : leastF p = some k) : lrF p = k := by unfold lrF; rw [h]
theorem lrF_none {p : Post} (h : leastF p = none) : lrF p = -1 := by unfold lrF; rw [h]
theorem refSureX_eq (a : Option Addr) (c : Nat) (ar : Option Addr) (cr : Nat) (p : Post) (x : Nat) (i : Nat) (B : Bool) (h : Hid (sureB (withPat p x) i = B)) (w : World) (hs : IntsAt w a p.sends) (hr : RoutesAt w ar p.routes) (h0 : postErr p = 0) (hx : x ≤ 30) (hi : i < p.sends.length) :
    Calls Try.prog 38 #[.agg #[.slice a p.sends.length c, .slice ar p.routes.length cr, .int .i64 (x : Int)], .int .i64 (i : Int)] w fun e w' => e = .returned (.bool B) ∧ Below w.heap.size w w' := by
  rw [← h.out]
  exact refSure_any a c ar cr (withPat p x) i w hs hr (postErr_pat h0 (by omega) (by omega)) hi
theorem rall_succ (f : Nat → Bool) (k : Nat) : (List.range (k + 1)).all f = ((List.range k).all f && f k) := by rw [List.range_succ, List.all_append]; simp
set_option maxRecDepth 100000 in
set_option maxHeartbeats 4000000 in
theorem refLeast_any (a : Option Addr) (c : Nat) (ar : Option Addr) (cr : Nat) (p : Post) (w : World) (hs : IntsAt w a p.sends) (hr : RoutesAt w ar p.routes) (h0 : postErr p = 0) :
    Calls Try.prog 39 #[.agg #[.slice a p.sends.length c, .slice ar p.routes.length cr, .int .i64 p.pat]] w fun e w' => e = .returned (.int .i64 (lrF p)) ∧ Below w.heap.size w w' := by
  have H0 := Lib.hid h0
  have lS := (postErr_ok h0).1
  clear h0
  obtain ⟨W1, hW1⟩ : ∃ z : World, z = w.alloc (.cells #[.slice a p.sends.length c, .slice ar p.routes.length cr, .int .i64 p.pat] 25) := ⟨_, rfl⟩
  have C1 : Cells W1 w.heap.size #[.slice a p.sends.length c, .slice ar p.routes.length cr, .int .i64 p.pat] 25 := by rw [hW1]; exact Cells.new _ _ _
  have t1 : Below w.heap.size w W1 := by rw [hW1]; exact (Below.refl _ _).alloc (Nat.le_refl _) _
  go_enter Try.func39, Try.ntmps39
  go_wp2
  rw [← hW1]
  clear hW1
  go_loopw [3] (fun u wr => ∃ n : Nat, n ≤ 31 ∧ u = .int .i64 n ∧ (∀ j, j < n → allSure p j = false) ∧ Below w.heap.size w wr ∧ Cells wr w.heap.size #[.slice a p.sends.length c, .slice ar p.routes.length cr, .int .i64 p.pat] 25) (fun u _ => 31 - (intOf u).toNat)
  case atStart => exact ⟨0, by omega, rfl, fun j hj => absurd hj (Nat.not_lt_zero j), t1, C1⟩
  case round =>
    obtain ⟨n, hn, rfl, hno, t, C⟩ := hrel
    have Hno := Lib.hid hno
    clear hno C1 t1
    have q0 := C.cell 0
    have q1 := C.cell 1
    have q2 := C.cell 2
    have lC := C.lt
    simp at q0 q1 q2
    by_cases hn1 : n ≤ 30
    · have hnI : (n : Int) ≤ 30 := by omega
      go_wp2
      clear q0 q1 q2 lC
      obtain ⟨W2, hW2⟩ : ∃ z : World, z = wr.alloc (.cells #[.slice a p.sends.length c, .slice ar p.routes.length cr, .int .i64 (n : Int)] 25) := ⟨_, rfl⟩
      have CX : Cells W2 wr.heap.size #[.slice a p.sends.length c, .slice ar p.routes.length cr, .int .i64 (n : Int)] 25 := by rw [hW2]; exact Cells.new _ _ _
      have b2 : Below wr.heap.size wr W2 := by rw [hW2]; exact (Below.refl _ _).alloc (Nat.le_refl _) _
      rw [← hW2]
      clear hW2
      obtain ⟨Bx, hBx⟩ : ∃ z : Nat, z = wr.heap.size := ⟨_, rfl⟩
      rw [← hBx] at CX ⊢
      have t2 := t.trans (b2.mono t.size)
      have C2 := C.below b2
      clear b2 hBx t C
      go_loopw [5, 6] (fun v u wr => ∃ i : Nat, i ≤ p.sends.length ∧ u = .int .i64 i ∧ v = .bool ((List.range i).all (sureB (withPat p n))) ∧ Below w.heap.size w wr ∧ Cells wr w.heap.size #[.slice a p.sends.length c, .slice ar p.routes.length cr, .int .i64 p.pat] 25 ∧ Cells wr Bx #[.slice a p.sends.length c, .slice ar p.routes.length cr, .int .i64 (n : Int)] 25) (fun _ u _ => p.sends.length - (intOf u).toNat)
      case atStart => exact ⟨0, Nat.zero_le _, rfl, rfl, t2, C2, CX⟩
      case round =>
        obtain ⟨i, hi, rfl, rfl, t, C, X⟩ := hrel
        clear t2 C2 CX
        have q0 := C.cell 0
        have lC := C.lt
        have x0 := X.cell 0
        have x1 := X.cell 1
        have x2 := X.cell 2
        have lX := X.lt
        simp at q0 x0 x1 x2
        by_cases hil : i < p.sends.length
        · have hiI : (i : Int) < (p.sends.length : Int) := by omega
          have Hs := Lib.hid (rall_succ (sureB (withPat p n)) i)
          cases hA : (List.range i).all (sureB (withPat p n))
          · rw [hA] at Hs
            clear hA
            go_wp2
            go_roundw
            case rel => exact ⟨i + 1, by omega, by go_num, by rw [Hs.out]; rfl, t, C, X⟩
            case measure => simp [intOf]; omega
          · rw [hA] at Hs
            clear hA
            obtain ⟨B, hB⟩ : ∃ B, sureB (withPat p n) i = B := ⟨_, rfl⟩
            rw [hB] at Hs
            have HB := Lib.hid hB
            clear hB
            go_wp2_with fail
            go_at_call 38
            refine (refSureX_eq a c ar cr p n i B HB _ (hs.below t) (hr.below t) H0.out hn1 hil).mono ?_
            rintro e w3 ⟨rfl, b3⟩
            go_wp2
            go_roundw
            case rel => exact ⟨i + 1, by omega, by go_num, by rw [Hs.out]; rfl, t.trans (b3.mono t.size), C.below b3, X.below b3⟩
            case measure => simp [intOf]; omega
        · obtain rfl : i = p.sends.length := by omega
          cases hA : (List.range p.sends.length).all (sureB (withPat p n))
          · have Hn : Hid (allSure p n = false) := Lib.hid hA
            clear hA
            go_wp2
            go_roundw
            case rel => exact ⟨n + 1, by omega, by go_num, below_succ' Hno.out Hn.out, t, C⟩
            case measure => simp [intOf]; omega
          · have Hn : Hid (lrF p = n) := Lib.hid (lrF_some (leastF_ok (by omega) Hno.out hA))
            clear hA
            go_wp2
            go_ret
            rw [Hn.out]
            exact ⟨rfl, t⟩
    · obtain rfl : n = 31 := by omega
      have Hn : Hid (lrF p = -1) := Lib.hid (lrF_none (leastF_bad Hno.out))
      go_wp2
      go_ret
      rw [Hn.out]
      exact ⟨rfl, t⟩
end Go.Proofs.Ytfclemnkcpadpaa

namespace Go.Proofs.Ytfclemnkcpadpaa
set_option linter.unusedVariables false
set_option linter.unusedSimpArgs false
set_option linter.unnecessarySimpa false
open Go.RowKit Go.Flow Go.Shelf

def rowG (f g : Hrs) (T : Nat → Nat → Bool) (M : Nat → Nat → Nat) (a : Nat) : Hrs := fun n => (List.range a).any fun a => f a && (List.range 102).any fun b => g b && T a b && decide (M a b = n)
def celG (f g : Hrs) (T : Nat → Nat → Bool) (M : Nat → Nat → Nat) (a b : Nat) : Hrs := fun n => rowG f g T M a n || (f a && (List.range b).any fun b => g b && T a b && decide (M a b = n))
section
variable {f g : Hrs} {T : Nat → Nat → Bool} {M : Nat → Nat → Nat} {a b : Nat}
theorem rowG_zero : rowG f g T M 0 = noHr := rfl
theorem celG_zero : celG f g T M a 0 = rowG f g T M a := by funext h; simp [celG]
theorem celG_yes (hf : f a = true) (hg : g b = true) (hT : T a b = true) : celG f g T M a (b + 1) = fun n => celG f g T M a b n || n == M a b := by
  funext h
  unfold celG
  rw [List.range_succ, List.any_append, hf, Bool.true_and, Bool.true_and, ← Bool.or_assoc]
  congr 1
  simp only [List.any_cons, List.any_nil, Bool.or_false, hg, hT, Bool.true_and]
  rw [Bool.eq_iff_iff]
  simp only [decide_eq_true_eq, beq_iff_eq]
  exact eq_comm
theorem celG_no (h : (g b && T a b) = false) : celG f g T M a (b + 1) = celG f g T M a b := by
  funext n
  unfold celG
  rw [List.range_succ, List.any_append]
  simp only [List.any_cons, List.any_nil, Bool.or_false, h, Bool.false_and]
theorem celG_all : celG f g T M a 102 = rowG f g T M (a + 1) := by
  funext h
  unfold celG rowG
  rw [show List.range (a + 1) = List.range a ++ [a] from List.range_succ, List.any_append]
  simp only [List.any_cons, List.any_nil, Bool.or_false]
theorem celG_off (hf : f a = false) : rowG f g T M a = rowG f g T M (a + 1) := by
  rw [← celG_all, ← celG_zero]
  funext h
  unfold celG
  rw [hf, Bool.false_and, Bool.false_and]
end
def finT (p : Post) (l : List Ent) (k a b : Nat) : Bool := fitsB l (recvF p k a b) k
def finM (p : Post) (k a b : Nat) : Nat := (recvF p k a b).at_.toNat
/-- When the first k can be finished. -/
def finS (p : Post) (l : List Ent) : Nat → Hrs
  | 0 => fun n => decide (n = 0)
  | k + 1 => rowG (finS p l k) (comF p k) (finT p l k) (finM p k) 101
theorem wrong_succ (l : List Ent) (k : Nat) (en : Ent) {m : Nat} (h : m < l.length) : (!(l.take (m + 1)).any (wrongB k en)) = (!(l.take m).any (wrongB k en) && !wrongB k en l[m]) := by
  rw [List.take_succ_eq_append_getElem h, List.any_append]; simp

set_option maxRecDepth 100000 in
set_option maxHeartbeats 8000000 in
theorem refFinishes_any (a : Option Addr) (c : Nat) (ar : Option Addr) (cr : Nat) (p : Post) (i : Nat) (al : Option Addr) (l : List Ent) (cl : Nat) (w : World) (hs : IntsAt w a p.sends) (hr : RoutesAt w ar p.routes) (hl : EntsAt w al l) (ll : l.length ≤ 1000) (h0 : postErr p = 0) (hi : i < p.sends.length) :
    Calls Try.prog 36 #[.agg #[.slice a p.sends.length c, .slice ar p.routes.length cr, .int .i64 p.pat], .int .i64 (i : Int), .slice al l.length cl] w fun e w' => e = .returned (.agg (setA (finS p l (i + 1)))) ∧ Below w.heap.size w w' := by
  have hhs := Lib.hid (post_hours h0)
  have H0 := Lib.hid h0
  have lS := (postErr_ok h0).1
  clear h0
  have zs : Try.zeroCells50 = setA noHr := by kernel_rfl
  have Hzs := Lib.hid zs
  have g0 : (Try.zeroCells50)[0]? = some (.bool false) := by rw [zs]; exact setA_get noHr 0 (by omega)
  clear zs
  go_enter Try.func36, Try.ntmps36
  go_wp2
  rw [Hzs.out, setA_set]
  have hone : setA (fun n => noHr n || n == 0) = setA (finS p l 0) := by
    congr 1
  rw [hone]
  clear hone g0
  obtain ⟨W1, hW1⟩ : ∃ z : World, z = (((w.alloc (.cells #[.slice a p.sends.length c, .slice ar p.routes.length cr, .int .i64 p.pat] 25)).alloc (.cells (setA noHr) 50)).alloc (.cells (setA (finS p l 0)) 50)) := ⟨_, rfl⟩
  have B1 : CoB w a c ar cr p (finS p l 0) W1 := by
    rw [hW1]
    exact ⟨(((Below.refl _ _).alloc (Nat.le_refl _) _).alloc (by simp) _).alloc (by simp; omega) _, ((Cells.new _ _ _).alloc _).alloc _, (Cells.new' _ _ _ _ (by simp)).alloc _, Cells.new' _ _ _ _ (by simp)⟩
  rw [← hW1]
  clear hW1
  go_loopw [8] (fun x wr => ∃ k : Nat, k ≤ i + 1 ∧ x = .int .i64 k ∧ CoB w a c ar cr p (finS p l k) wr) (fun x _ => i + 1 - (intOf x).toNat)
  case atStart => exact ⟨0, Nat.zero_le _, rfl, B1⟩
  case round =>
    obtain ⟨k, hk, rfl, hB⟩ := hrel
    clear B1
    have q0 := hB.c2.cell 0
    have q1 := hB.c2.cell 1
    have q2 := hB.c2.cell 2
    have l2 := hB.c2.lt
    simp at q0 q1 q2
    by_cases hki : k ≤ i
    · have hkI : (k : Int) ≤ (i : Int) := by omega
      have hkS : k < p.sends.length := by omega
      obtain ⟨f, hf⟩ : ∃ f, finS p l k = f := ⟨_, rfl⟩
      obtain ⟨g, hg⟩ : ∃ g, comF p k = g := ⟨_, rfl⟩
      have Hrow : Hid (rowG f g (finT p l k) (finM p k) 101 = finS p l (k + 1)) := Lib.hid (by rw [← hf, ← hg]; rfl)
      have hco := fun X (b : Below w.heap.size w X) => refComings_any a c ar cr p k X (hs.below b) (hr.below b) H0.out hkS
      rw [hg] at hco
      rw [hf] at hB
      clear hf hg
      go_wp2_with fail
      rw [Hzs.out]
      obtain ⟨W6, hW6⟩ : ∃ z : World, z = wr.alloc (.cells (setA noHr) 50) := ⟨_, rfl⟩
      have b6 : Below wr.heap.size wr W6 := by rw [hW6]; exact (Below.refl _ _).alloc (Nat.le_refl _) _
      have cN6 : Cells W6 wr.heap.size (setA noHr) 50 := by rw [hW6]; exact Cells.new _ _ _
      rw [← hW6]
      clear hW6
      obtain ⟨Bn, hBn⟩ : ∃ z : Nat, z = wr.heap.size := ⟨_, rfl⟩
      have hB6 := hB.below b6
      have hBn3 : w.heap.size + 3 ≤ Bn := by have := hB.c5.lt; omega
      rw [← hBn] at cN6 ⊢
      clear hBn hB b6 q0 q1 q2 l2
      go_at_call 77
      refine (hco _ hB6.b).mono ?_
      rintro e w2 ⟨rfl, hb2⟩
      have hB2 := hB6.below hb2
      have cN2 := cN6.below hb2
      have lN := cN2.lt
      clear hB6 cN6 hb2 hco
      go_wp2_with fail
      have hsc := run_storeCells_new (P := Try.prog) w2 50 (Try.zeroCells50) (setA g) (by rw [setA_size]; kernel_rfl) (by rw [Hzs.out, setA_size, setA_size]) (setA_one g)
      simp only [hsc, Result.andThen]
      rw [Oper.upon_skip]
      clear hsc
      obtain ⟨W7, hW7⟩ : ∃ z : World, z = w2.alloc (.cells (setA g) 50) := ⟨_, rfl⟩
      have b7 : Below w2.heap.size w2 W7 := by rw [hW7]; exact (Below.refl _ _).alloc (Nat.le_refl _) _
      have cG7 : Cells W7 w2.heap.size (setA g) 50 := by rw [hW7]; exact Cells.new _ _ _
      rw [← hW7]
      clear hW7
      have hB7 := hB2.below b7
      have cN7 := cN2.below b7
      obtain ⟨Be, hBe⟩ : ∃ z : Nat, z = w2.heap.size := ⟨_, rfl⟩
      rw [← hBe] at cG7 lN ⊢
      have hne : Be ≠ Bn := by omega
      have hBe3 : w.heap.size + 3 ≤ Be := by omega
      clear hBe hB2 cN2 b7
      go_wp2
      go_loopw [11] (fun u wr => ∃ x : Nat, x ≤ 101 ∧ u = .int .i64 x ∧ CoB w a c ar cr p f wr ∧ Cells wr Be (setA g) 50 ∧ Cells wr Bn (setA (rowG f g (finT p l k) (finM p k) x)) 50) (fun u _ => 101 - (intOf u).toNat)
      case atStart => exact ⟨0, by omega, rfl, hB7, cG7, by rw [rowG_zero]; exact cN7⟩
      case round =>
        obtain ⟨x, hx, rfl, hB, cG, cR⟩ := hrel
        clear hB7 cG7 cN7
        by_cases hx1 : x ≤ 100
        · have hxI : (x : Int) ≤ 100 := by omega
          go_wp2
          go_loopw [12] (fun u wr => ∃ y : Nat, y ≤ 102 ∧ (f x = false → y = 0) ∧ u = .int .i64 y ∧ CoB w a c ar cr p f wr ∧ Cells wr Be (setA g) 50 ∧ Cells wr Bn (setA (celG f g (finT p l k) (finM p k) x y)) 50) (fun u _ => 102 - (intOf u).toNat)
          case atStart => exact ⟨0, by omega, fun _ => rfl, rfl, hB, cG, by rw [celG_zero]; exact cR⟩
          case round =>
            obtain ⟨y, hy, hyf, rfl, hB, cG, cQ⟩ := hrel
            clear cR
            have n5 := hB.c5.cell x
            rw [setA_get f x (by omega)] at n5
            have l5 := hB.c5.lt
            have Hyf := Lib.hid hyf
            clear hyf
            cases hf : f x
            · obtain rfl := Hyf.out hf
              rw [hf] at n5
              have Hp := Lib.hid (celG_off (g := g) (T := finT p l k) (M := finM p k) hf)
              clear hf
              go_wp2
              go_roundw
              case rel => exact ⟨x + 1, by omega, by go_num, hB, cG, by rw [← Hp.out, ← celG_zero]; exact cQ⟩
              case measure => simp [intOf]; omega
            · rw [hf] at n5
              have Hf := Lib.hid hf
              clear hf
              by_cases hy1 : y ≤ 101
              · have hyI : (y : Int) ≤ 101 := by omega
                have m1 := cG.cell y
                rw [setA_get g y (by omega)] at m1
                have lG := cG.lt
                cases hg : g y
                · rw [hg] at m1
                  have Hp := Lib.hid (celG_no (f := f) (a := x) (b := y) (g := g) (T := finT p l k) (M := finM p k) (by rw [hg]; rfl))
                  clear hg
                  go_wp2
                  go_roundw
                  case rel => exact ⟨y + 1, by omega, fun h => (by cases h), by go_num, hB, cG, by rw [Hp.out]; exact cQ⟩
                  case measure => simp [intOf]; omega
                · rw [hg] at m1
                  have Hg := Lib.hid hg
                  clear hg
                  have hsb := hhs.out.s _ (List.getElem_mem hkS)
                  have hpb := hhs.out.p
                  have hgd : p.sends.getD k 0 = p.sends[k] := by simp [hkS]
                  obtain ⟨A, hA⟩ : ∃ A, finM p k x y = A := ⟨_, rfl⟩
                  have hAi : (recvF p k x y).at_ = (A : Int) ∧ A ≤ 101 := by
                    rw [← hA]; unfold finM recvF; simp only; omega
                  have hfi := fun X (b : Below wr.heap.size wr X) => refFinish_any a c ar cr p k x y X ((hs.below hB.b).below b) hkS (by omega) (by omega) (by omega)
                  have hrn : (recvF p k x y).num = (k : Int) := rfl
                  have hTT : finT p l k x y = fitsB l (recvF p k x y) k := rfl
                  obtain ⟨en, hen⟩ : ∃ e, recvF p k x y = e := ⟨_, rfl⟩
                  rw [hen] at hfi hAi hrn hTT
                  obtain ⟨en0, en1, S⟩ := en
                  simp only at hAi hrn hfi
                  obtain ⟨rfl, hA101⟩ := hAi
                  subst hrn
                  have HT := Lib.hid hTT
                  have HA := Lib.hid hA
                  clear hTT hA hen hsb hpb hgd
                  have q0 := hB.c2.cell 0
                  have q1 := hB.c2.cell 1
                  have q2 := hB.c2.cell 2
                  have l2 := hB.c2.lt
                  simp at q0 q1 q2
                  go_wp2_with fail
                  go_at_call 68
                  refine (hfi _ (by (repeat (first | exact Below.refl _ _ | refine Below.alloc ?_ (by first | omega | (simp; done) | (simp; omega)) _ | refine Below.drew ?_ | refine Below.setCell ?_ (by first | omega | (simp; done) | (simp; omega)) _ | refine Below.trans ?_ (Below.mono (by assumption) (by first | omega | (simp; done) | (simp; omega))))))).mono ?_
                  rintro e w3 ⟨rfl, hb3⟩
                  have hB3 : CoB w a c ar cr p f w3 := hB.below (by (repeat (first | exact Below.refl _ _ | refine Below.alloc ?_ (by first | omega | (simp; done) | (simp; omega)) _ | refine Below.drew ?_ | refine Below.setCell ?_ (by first | omega | (simp; done) | (simp; omega)) _ | refine Below.trans ?_ (Below.mono (by assumption) (by first | omega | (simp; done) | (simp; omega))))))
                  have cG3 := cG.below (show Below wr.heap.size wr w3 by (repeat (first | exact Below.refl _ _ | refine Below.alloc ?_ (by first | omega | (simp; done) | (simp; omega)) _ | refine Below.drew ?_ | refine Below.setCell ?_ (by first | omega | (simp; done) | (simp; omega)) _ | refine Below.trans ?_ (Below.mono (by assumption) (by first | omega | (simp; done) | (simp; omega))))))
                  have cQ3 := cQ.below (show Below wr.heap.size wr w3 by (repeat (first | exact Below.refl _ _ | refine Below.alloc ?_ (by first | omega | (simp; done) | (simp; omega)) _ | refine Below.drew ?_ | refine Below.setCell ?_ (by first | omega | (simp; done) | (simp; omega)) _ | refine Below.trans ?_ (Below.mono (by assumption) (by first | omega | (simp; done) | (simp; omega))))))
                  clear hfi hb3 n5 l5 m1 lG cQ cG q0 q1 q2 l2
                  go_wp2_with fail
                  go_loopw [15, 16] (fun q u wr => ∃ m : Nat, m ≤ l.length ∧ q = .bool (!(l.take m).any (wrongB k ⟨(k : Int), (A : Int), S⟩)) ∧ u = .int .i64 m ∧ wr = w3) (fun _ u _ => l.length - (intOf u).toNat)
                  case atStart => exact ⟨0, Nat.zero_le _, rfl, rfl, rfl⟩
                  case round =>
                    obtain ⟨m, hm, rfl, rfl, rfl⟩ := hrel
                    by_cases hml : m < l.length
                    · have hmI : (m : Int) < (l.length : Int) := by omega
                      obtain ⟨b5, off5, rfl, hb5, z0, z1, z2⟩ := (hl.below hB3.b) m hml
                      have Hs := Lib.hid (wrong_succ l k ⟨(k : Int), (A : Int), S⟩ hml)
                      obtain ⟨Q, hQ⟩ : ∃ Q, (!(l.take m).any (wrongB k ⟨(k : Int), (A : Int), S⟩)) = Q := ⟨_, rfl⟩
                      rw [hQ] at Hs ⊢
                      obtain ⟨⟨e0, e1, e2⟩, hee⟩ : ∃ e, l[m] = e := ⟨_, rfl⟩
                      rw [hee] at Hs z0 z1 z2
                      simp only at z0 z1 z2
                      clear hQ hee
                      by_cases c0 : e0 = (k : Int)
                      · subst c0
                        have t0 : ((k : Int) == (k : Int)) = true := by simp
                        by_cases c1 : e1 = (A : Int)
                        · subst c1
                          have t1 : ((A : Int) != (A : Int)) = false := by simp
                          by_cases c2 : e2 = S
                          · subst c2
                            have Hn : Hid ((!(l.take (m + 1)).any (wrongB k ⟨(k : Int), (A : Int), e2⟩)) = Q) := Lib.hid (by rw [Hs.out]; simp [wrongB, entNe])
                            clear Hs
                            cases e2
                            all_goals
                              go_wp2
                              go_roundw
                              case rel => exact ⟨m + 1, by omega, by rw [Hn.out], by go_num, trivial⟩
                              case measure => simp [intOf]; omega
                          · have Hn : Hid ((!(l.take (m + 1)).any (wrongB k ⟨(k : Int), (A : Int), S⟩)) = false) := Lib.hid (by rw [Hs.out]; simp [wrongB, entNe, c2])
                            have t2 : (e2 != S) = true := by simpa using c2
                            clear Hs
                            cases e2 <;> cases S <;> first | exact absurd rfl c2 | skip
                            all_goals
                              go_wp2
                              go_roundw
                              case rel => exact ⟨m + 1, by omega, by rw [Hn.out], by go_num, trivial⟩
                              case measure => simp [intOf]; omega
                        · have Hn : Hid ((!(l.take (m + 1)).any (wrongB k ⟨(k : Int), (A : Int), S⟩)) = false) := Lib.hid (by rw [Hs.out]; simp [wrongB, entNe, c1])
                          have t1 : (e1 != (A : Int)) = true := by simpa using c1
                          clear Hs
                          go_wp2
                          go_roundw
                          case rel => exact ⟨m + 1, by omega, by rw [Hn.out], by go_num, trivial⟩
                          case measure => simp [intOf]; omega
                      · have Hn : Hid ((!(l.take (m + 1)).any (wrongB k ⟨(k : Int), (A : Int), S⟩)) = Q) := Lib.hid (by rw [Hs.out]; simp [wrongB, c0])
                        have t0 : (e0 == (k : Int)) = false := by simpa using c0
                        clear Hs
                        go_wp2
                        go_roundw
                        case rel => exact ⟨m + 1, by omega, by rw [Hn.out], by go_num, trivial⟩
                        case measure => simp [intOf]; omega
                    · obtain rfl : m = l.length := by omega
                      rw [List.take_length, show (!l.any (wrongB k ⟨(k : Int), (A : Int), S⟩)) = finT p l k x y from HT.out.symm]
                      clear HT
                      have lQ := cQ3.lt
                      cases hT : finT p l k x y
                      · have Hp := Lib.hid (celG_no (f := f) (a := x) (b := y) (g := g) (T := finT p l k) (M := finM p k) (by rw [hT, Bool.and_false]))
                        clear hT
                        go_wp2
                        go_roundw
                        case rel => exact ⟨y + 1, by omega, fun h => (by cases h), by go_num, hB3, cG3, by rw [Hp.out]; exact cQ3⟩
                        case measure => simp [intOf]; omega
                      · have Hp := Lib.hid (celG_yes (M := finM p k) Hf.out Hg.out hT)
                        clear hT
                        have f1 := cQ3.frozen A
                        have g1 := cQ3.cell A
                        rw [setA_get _ A (by omega)] at g1
                        go_wp2
                        go_roundw
                        case rel =>
                          refine ⟨y + 1, by omega, fun h => (by cases h), by go_num, hB3.put _ hBn3, cG3.elseB _ hne, ?_⟩
                          have := cQ3.set A (.bool true)
                          rw [setA_set] at this
                          rw [Hp.out, HA.out]; exact this
                        case measure => simp [intOf]; omega
              · obtain rfl : y = 102 := by omega
                have Hp := Lib.hid (celG_all (f := f) (g := g) (T := finT p l k) (M := finM p k) (a := x))
                go_wp2
                go_roundw
                case rel => exact ⟨x + 1, by omega, by go_num, hB, cG, by rw [← Hp.out]; exact cQ⟩
                case measure => simp [intOf]; omega
        · obtain rfl : x = 101 := by omega
          rw [Hrow.out] at cR
          have lR := cR.lt
          go_wp2
          refine wp_load_row 50 (.tmp 9) rfl Bn rfl 50 _ (0, 0) _ cR Try.underlying50 rfl (by rw [setA_size]; kernel_rfl) ?_
          go_step
          go_step
          refine wp_store_row 50 (.tmp 7) (.tmp 85) rfl (w.heap.size + 1 + 1) _ rfl rfl 50 _ hB.c5 (by rw [setA_size]; kernel_rfl) (by rw [setA_size, setA_size]) (setA_one _) ?_
          go_wp2
          go_roundw
          case rel => exact ⟨k + 1, by omega, by go_num, hB.row _⟩
          case measure => simp [intOf]; omega
    · obtain rfl : k = i + 1 := by omega
      have hkI : ¬ ((i : Int) + 1 ≤ (i : Int)) := by omega
      go_wp2
      refine wp_load_row 50 (.tmp 7) rfl (w.heap.size + 1 + 1) rfl 50 _ (0, 0) _ hB.c5 Try.underlying50 rfl (by rw [setA_size]; kernel_rfl) ?_
      go_step
      go_step
      refine wp_store_row 50 (.tmp 6) (.tmp 86) rfl (w.heap.size + 1) _ rfl rfl 50 _ hB.c4 (by rw [setA_size]; kernel_rfl) (by rw [setA_size, setA_size]) (setA_one _) ?_
      go_wp2
      refine bodyPost_ret (v := .agg (setA (finS p l (i + 1)))) ?_ rfl ⟨rfl, below_setRow hB.b (by omega) _⟩
      exact results_cell_row rfl _ _ (w.heap.size + 1) 50 _ (0, 0) _ rfl (setRow_heap _ _ _ _ _ _ hB.c4) Try.underlying50 rfl (by rw [setA_size]; kernel_rfl)
end Go.Proofs.Ytfclemnkcpadpaa

namespace Go.Proofs.Ytfclemnkcpadpaa
set_option linter.unusedVariables false
set_option linter.unusedSimpArgs false
set_option linter.unnecessarySimpa false
open Go.RowKit Go.Flow Go.Shelf

theorem rowG_iff {f g : Hrs} {T : Nat → Nat → Bool} {M : Nat → Nat → Nat} {a n : Nat} : rowG f g T M a n = true ↔ ∃ x y, x < a ∧ y < 102 ∧ f x = true ∧ g y = true ∧ T x y = true ∧ M x y = n := by
  unfold rowG
  simp only [List.any_eq_true, List.mem_range, Bool.and_eq_true, decide_eq_true_eq]
  constructor
  · rintro ⟨x, hx, hf, y, hy, ⟨hg, hT⟩, hM⟩
    exact ⟨x, y, hx, hy, hf, hg, hT, hM⟩
  · rintro ⟨x, y, hx, hy, hf, hg, hT, hM⟩
    exact ⟨x, hx, hf, y, hy, ⟨hg, hT⟩, hM⟩
theorem finM_eq (p : Post) {k a b : Nat} : ((finM p k a b : Nat) : Int) = max (a : Int) (min (b : Int) (p.sends.getD k 0 + p.pat)) := by
  unfold finM recvF
  simp only
  omega
theorem dead_bd {p : Post} (h0 : postErr p = 0) {k : Nat} (hk : k < p.sends.length) : 0 ≤ p.sends.getD k 0 + p.pat ∧ p.sends.getD k 0 + p.pat ≤ 60 := by
  have hh := post_hours h0
  have e : p.sends.getD k 0 = p.sends[k] := by simp [hk]
  have := hh.s _ (List.getElem_mem hk)
  have := hh.p
  omega
theorem finS_ends {p : Post} (h0 : postErr p = 0) : ∀ k, k ≤ p.sends.length → ∃ lo hi : Nat, finN p (earliestF p) k = (lo : Int) ∧ finN p (latestF p) k = (hi : Int) ∧ hi ≤ 60 ∧ finS p [] k lo = true ∧ finS p [] k hi = true ∧ ∀ n, finS p [] k n = true → lo ≤ n ∧ n ≤ hi
  | 0, _ => ⟨0, 0, rfl, rfl, by omega, rfl, rfl, fun n hn => by
      have : n = 0 := of_decide_eq_true hn
      omega⟩
  | k + 1, hk => by
    obtain ⟨lo, hi, h1, h2, h3, h4, h5, h6⟩ := finS_ends h0 k (by omega)
    obtain ⟨e, e1, e2, e3, e4⟩ := earliest_spec h0 (i := k) (by omega)
    obtain ⟨t, t1, t2, t3, t4⟩ := latest_spec h0 (i := k) (by omega)
    have hd := dead_bd h0 (k := k) (by omega)
    have hlh := (h6 lo h4).2
    refine ⟨finM p k lo e, finM p k hi t, ?_, ?_, ?_, ?_, ?_, ?_⟩
    · rw [finN_succ, h1, e2, finM_eq]
    · rw [finN_succ, h2, t2, finM_eq]
    · have := finM_eq p (k := k) (a := hi) (b := t); omega
    · exact rowG_iff.2 ⟨lo, e, by omega, by omega, h4, by rw [comF_can h0 (by omega) e1]; exact e3, rfl, rfl⟩
    · exact rowG_iff.2 ⟨hi, t, by omega, by omega, h5, by rw [comF_can h0 (by omega) t1]; exact t3, rfl, rfl⟩
    · intro n hn
      obtain ⟨x, y, hx, hy, hf, hg, _, rfl⟩ := rowG_iff.1 hn
      rw [comF_can h0 (by omega) (by omega)] at hg
      have := h6 x hf
      have := e4 y (by omega) hg
      have := t4 y (by omega) hg
      have a1 := finM_eq p (k := k) (a := lo) (b := e)
      have a2 := finM_eq p (k := k) (a := hi) (b := t)
      have a3 := finM_eq p (k := k) (a := x) (b := y)
      omega
theorem ends_fin {p : Post} (h0 : postErr p = 0) {i : Nat} (hi : i < p.sends.length) : endsN (finS p [] (i + 1)) 102 = spanAt p i := by
  obtain ⟨lo, hi', h1, h2, h3, h4, h5, h6⟩ := finS_ends h0 (i + 1) (by omega)
  rw [endsN_spec h4 h5 (fun n _ h => (h6 n h).1) (fun n _ h => (h6 n h).2) (by omega)]
  unfold spanAt
  rw [h1, h2]
end Go.Proofs.Ytfclemnkcpadpaa
