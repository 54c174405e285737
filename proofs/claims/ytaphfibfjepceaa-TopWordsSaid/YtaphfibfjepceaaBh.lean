/- pay: the reference's Fault -/
import Derived.Test.YtaphfibfjepceaaBg
namespace Go.Proofs.Ytaphfibfjepceaa
set_option linter.unusedVariables false
set_option linter.unusedSimpArgs false
set_option linter.unnecessarySimpa false
open Go.RowKit Go.Flow Go.Shelf

/-- The first k stations are stations, none of them twice. -/
def OnceTo (st : Int) (l : List Int) (k : Nat) : Prop := (∀ j, j < k → inR (l.getD j 0) 0 (st - 1) = true) ∧ ∀ j, j < k → ∀ i, i < j → l.getD i 0 ≠ l.getD j 0
theorem getD_mem' {l : List Int} {j : Nat} (h : j < l.length) : l.getD j 0 ∈ l := by rw [List.getD_eq_getElem?_getD, List.getElem?_eq_getElem h]; exact List.getElem_mem h
theorem OnceTo.all {st : Int} {l : List Int} (h : OnceTo st l l.length) : onceB st l = true := by
  rw [onceB_iff]
  refine ⟨fun s hs => ?_, ?_⟩
  · obtain ⟨j, hj, rfl⟩ := List.getElem_of_mem hs
    have := inR_iff.1 (h.1 j hj)
    rw [List.getD_eq_getElem?_getD, List.getElem?_eq_getElem hj, Option.getD_some] at this
    omega
  · rw [List.nodup_iff_pairwise_ne, List.pairwise_iff_getElem]
    intro i j hi hj hij e
    have := h.2 j hj i hij
    rw [List.getD_eq_getElem?_getD, List.getD_eq_getElem?_getD, List.getElem?_eq_getElem hi, List.getElem?_eq_getElem hj] at this
    exact this e
theorem once_out {st : Int} {l : List Int} {j : Nat} (hj : j < l.length) (h : inR (l.getD j 0) 0 (st - 1) = false) : onceB st l = false := by
  cases ho : onceB st l
  · rfl
  · have := (onceB_iff.1 ho).1 _ (getD_mem' hj)
    rw [show inR (l.getD j 0) 0 (st - 1) = true from inR_iff.2 (by omega)] at h
    cases h
theorem once_twice {st : Int} {l : List Int} {i j : Nat} (hij : i < j) (hj : j < l.length) (h : l.getD i 0 = l.getD j 0) : onceB st l = false := by
  cases ho : onceB st l
  · rfl
  · have hn := (onceB_iff.1 ho).2
    rw [List.nodup_iff_pairwise_ne, List.pairwise_iff_getElem] at hn
    rw [List.getD_eq_getElem?_getD, List.getD_eq_getElem?_getD, List.getElem?_eq_getElem hj, List.getElem?_eq_getElem (show i < l.length by omega)] at h
    exact absurd h (hn i j (by omega) hj hij)
theorem disB_once {st : Int} {d : Dis} (h : onceB st d.passed = false) : disB st d = false := by unfold disB; rw [h]; rfl
theorem accErr_few {a : Acc} (h : ∃ d ∈ a.ds, 5 < d.passed.length) : accErr a = 3 := by
  unfold accErr
  rw [if_pos]
  obtain ⟨d, hd, h5⟩ := h
  exact .inr (.inr (List.all_eq_false.2 ⟨d, hd, by simp [fewB]; omega⟩))
theorem accErr_big {a : Acc} (h : 7 < a.st ∨ 6 < a.ds.length) : accErr a = 3 := by
  unfold accErr
  rw [if_pos]
  exact h.elim .inl (fun h => .inr (.inl h))
theorem accErr_one {a : Acc} (h1 : a.st ≤ 7) (h2 : a.ds.length ≤ 6) (h3 : ∀ d ∈ a.ds, d.passed.length ≤ 5) (h : a.st < 1 ∨ inR a.rate 0 20 = false ∨ inR a.keeps 0 100 = false ∨ ∃ d ∈ a.ds, disB a.st d = false) : accErr a = 1 := by
  have hf : a.ds.all fewB = true := List.all_eq_true.2 fun d hd => by simpa [fewB] using h3 d hd
  unfold accErr
  rw [if_neg (by rw [hf]; simp; omega), if_pos]
  rcases h with h | h | h | ⟨d, hd, h⟩
  · exact .inl h
  · exact .inr (.inl h)
  · exact .inr (.inr (.inl h))
  · exact .inr (.inr (.inr (List.all_eq_false.2 ⟨d, hd, by simp [h]⟩)))
theorem accErr_zero {a : Acc} (h1 : a.st ≤ 7) (h2 : a.ds.length ≤ 6) (h3 : ∀ d ∈ a.ds, d.passed.length ≤ 5) (h4 : 1 ≤ a.st) (h5 : inR a.rate 0 20 = true) (h6 : inR a.keeps 0 100 = true) (h7 : ∀ d ∈ a.ds, disB a.st d = true) : accErr a = 0 := by
  have hf : a.ds.all fewB = true := List.all_eq_true.2 fun d hd => by simpa [fewB] using h3 d hd
  unfold accErr
  rw [if_neg (by rw [hf]; simp; omega), if_neg]
  rw [h5, h6, List.all_eq_true.2 h7]
  simp; omega
/-- What of a dispatch is looked at first. -/
def headB (st : Int) (d : Dis) : Bool := inR d.payer 0 (st - 1) && inR d.lo 1 d.hi && decide (d.hi ≤ 200) && decide (0 < d.passed.length)
theorem disB_head {st : Int} {d : Dis} : disB st d = (onceB st d.passed && headB st d) := by
  unfold disB headB inR
  cases onceB st d.passed <;> simp [Bool.and_assoc]

section
variable (st rate keeps : Int) (ds : List Dis) (ad : Option Addr) (cd : Nat) (w : World) (hd : DisAt w ad ds) (sm : AccSmall ⟨st, rate, keeps, ds⟩)
include hd sm
set_option maxRecDepth 100000 in
set_option maxHeartbeats 8000000 in
theorem rFault_any : Calls Try.prog 8 #[.agg #[.int .i64 st, .int .i64 rate, .int .i64 keeps, .slice ad ds.length cd]] w fun e w' => e = .returned (.int .i64 (accErr ⟨st, rate, keeps, ds⟩)) ∧ Below w.heap.size w w' := by
  obtain ⟨W0, hW0⟩ : ∃ z : World, z = w.alloc (.cells #[.int .i64 st, .int .i64 rate, .int .i64 keeps, .slice ad ds.length cd] 29) := ⟨_, rfl⟩
  have b0 : Below w.heap.size w W0 := by rw [hW0]; (repeat (first | exact Below.refl _ _ | refine Below.alloc ?_ (by first | omega | (simp; done) | (simp; omega)) _ | refine Below.drew ?_ | refine Below.setCell ?_ (by first | omega | (simp; done) | (simp; omega)) _ | refine Below.trans ?_ (Below.mono (by assumption) (by first | omega | (simp; done) | (simp; omega)))))
  have C0 : Cells W0 w.heap.size #[.int .i64 st, .int .i64 rate, .int .i64 keeps, .slice ad ds.length cd] 29 := by rw [hW0]; exact Cells.new _ _ _
  have l0 : ds.length ≤ 1000 := sm.d
  have lp : ∀ d ∈ ds, d.passed.length ≤ 1000 := sm.p
  have q0 := C0.cell 0
  have q1 := C0.cell 1
  have q2 := C0.cell 2
  have q3 := C0.cell 3
  have lq := C0.lt
  simp at q0 q1 q2 q3
  obtain ⟨E, hE⟩ : ∃ E, accErr ⟨st, rate, keeps, ds⟩ = E := ⟨_, rfl⟩
  rw [hE]
  have HE := Lib.hid hE
  clear hE sm
  by_cases c1 : 7 < st
  · obtain rfl : E = 3 := by rw [← HE.out]; exact accErr_big (.inl c1)
    have c1d : decide (7 < st) = true := by simpa using c1
    clear HE c1
    go_enter Try.func8, Try.ntmps8
    go_wp2
    go_ret
    exact ⟨rfl, by (repeat (first | exact Below.refl _ _ | refine Below.alloc ?_ (by first | omega | (simp; done) | (simp; omega)) _ | refine Below.drew ?_ | refine Below.setCell ?_ (by first | omega | (simp; done) | (simp; omega)) _ | refine Below.trans ?_ (Below.mono (by assumption) (by first | omega | (simp; done) | (simp; omega)))))⟩
  have c1d : decide (7 < st) = false := by simpa using c1
  by_cases c2 : (6 : Int) < (ds.length : Int)
  · obtain rfl : E = 3 := by rw [← HE.out]; exact accErr_big (.inr (by show 6 < ds.length; omega))
    have c2d : decide ((6 : Int) < (ds.length : Int)) = true := by simpa using c2
    clear HE c1 c2
    go_enter Try.func8, Try.ntmps8
    go_wp2
    go_ret
    exact ⟨rfl, by (repeat (first | exact Below.refl _ _ | refine Below.alloc ?_ (by first | omega | (simp; done) | (simp; omega)) _ | refine Below.drew ?_ | refine Below.setCell ?_ (by first | omega | (simp; done) | (simp; omega)) _ | refine Below.trans ?_ (Below.mono (by assumption) (by first | omega | (simp; done) | (simp; omega)))))⟩
  have c2d : decide ((6 : Int) < (ds.length : Int)) = false := by simpa using c2
  clear q1 q2
  go_enter Try.func8, Try.ntmps8
  go_wp2
  rw [← hW0]
  clear hW0
  go_loopw [3] (fun i wr => ∃ k : Nat, k ≤ ds.length ∧ i = .int .i64 k ∧ wr = W0 ∧ ∀ j (h : j < ds.length), j < k → ds[j].passed.length ≤ 5) (fun i _ => ds.length - (intOf i).toNat)
  case atStart => exact ⟨0, Nat.zero_le _, rfl, rfl, fun j _ h => by omega⟩
  case round =>
    obtain ⟨k, hk, rfl, rfl, hall⟩ := hrel
    have Hall := Lib.hid hall
    clear hall
    by_cases hlt : k < ds.length
    · have hkI : (k : Int) < (ds.length : Int) := by omega
      obtain ⟨bd, od, al, cl, rfl, hbd, _, _, _, d3, _⟩ := (hd.below b0) k hlt
      have hpl := lp _ (List.getElem_mem hlt)
      obtain ⟨n, hn⟩ : ∃ n, ds[k].passed.length = n := ⟨_, rfl⟩
      rw [hn] at d3 hpl
      have Hn := Lib.hid hn
      clear hn
      by_cases h8 : (5 : Int) < (n : Int)
      · obtain rfl : E = 3 := by
          rw [← HE.out]
          exact accErr_few ⟨ds[k], List.getElem_mem hlt, by have := Hn.out; omega⟩
        clear HE
        go_wp2
        go_ret
        exact ⟨rfl, b0⟩
      · go_wp2
        go_roundw
        case rel => exact ⟨k + 1, by omega, by go_num, by trivial, fun j h hj => by
          by_cases e : j = k
          · subst e; have := Hn.out; omega
          · exact Hall.out j h (by omega)⟩
        case measure => simp [intOf]; omega
    · obtain rfl : k = ds.length := by omega
      have hfew : ∀ d ∈ ds, d.passed.length ≤ 5 := fun d hd => by
        obtain ⟨j, hj, rfl⟩ := List.getElem_of_mem hd
        exact Hall.out j hj hj
      have h6 : ds.length ≤ 6 := by omega
      have h7 : st ≤ 7 := by omega
      have Hone := Lib.hid (accErr_one (a := ⟨st, rate, keeps, ds⟩) h7 h6 hfew)
      have Hzero := Lib.hid (accErr_zero (a := ⟨st, rate, keeps, ds⟩) h7 h6 hfew)
      have Hfew := Lib.hid hfew
      rw [HE.out] at Hone Hzero
      have q1 := C0.cell 1
      have q2 := C0.cell 2
      simp at q1 q2
      have i1 := rin_any rate 0 20
      have i2 := rin_any keeps 0 100
      clear hfew Hall
      by_cases c3 : st < 1
      · obtain rfl : E = 1 := Hone.out (.inl c3)
        have c3d : decide (st < 1) = true := by simpa using c3
        clear Hone Hzero HE c3
        go_wp2
        go_ret
        exact ⟨rfl, b0⟩
      have c3d : decide (st < 1) = false := by simpa using c3
      cases c4 : inR rate 0 20
      · obtain rfl : E = 1 := Hone.out (.inr (.inl c4))
        rw [c4] at i1
        clear Hone Hzero HE
        go_wp2_with (go_at_call 21; (with_reducible refine (i1 _).mono ?_); rintro e _ ⟨rfl, rfl⟩)
        go_ret
        exact ⟨rfl, b0⟩
      cases c5 : inR keeps 0 100
      · obtain rfl : E = 1 := Hone.out (.inr (.inr (.inl c5)))
        rw [c4] at i1
        rw [c5] at i2
        clear Hone Hzero HE
        go_wp2_with (first | (go_at_call 21; (with_reducible refine (i1 _).mono ?_); rintro e _ ⟨rfl, rfl⟩) | (go_at_call 21; (with_reducible refine (i2 _).mono ?_); rintro e _ ⟨rfl, rfl⟩))
        go_ret
        exact ⟨rfl, b0⟩
      have Hone2 : Hid (∀ (k : Nat) (h : k < ds.length), disB st ds[k] = false → E = 1) := Lib.hid fun k h hb => Hone.out (.inr (.inr (.inr ⟨_, List.getElem_mem h, hb⟩)))
      have Hzero2 : Hid ((∀ j (h : j < ds.length), disB st ds[j] = true) → E = 0) := Lib.hid fun h => Hzero.out (by show 1 ≤ st; omega) c4 c5 (fun d hd => by obtain ⟨j, hj, rfl⟩ := List.getElem_of_mem hd; exact h j hj)
      have wS : IntKind.i64.wrap (st - 1) = st - 1 := IntWalk.i64_in _ (by omega)
      rw [c4] at i1
      rw [c5] at i2
      clear Hone Hzero HE c4 c5
      go_wp2_with (first | (go_at_call 21; (with_reducible refine (i1 _).mono ?_); rintro e _ ⟨rfl, rfl⟩) | (go_at_call 21; (with_reducible refine (i2 _).mono ?_); rintro e _ ⟨rfl, rfl⟩))
      clear i1 i2 q0 q1 q2 q3 lq
      go_loopw [4, 5, 6, 7] (fun i _ _ _ X => ∃ k : Nat, k ≤ ds.length ∧ i = .int .i64 k ∧ Below wr.heap.size wr X ∧ ∀ j (h : j < ds.length), j < k → disB st ds[j] = true) (fun i _ _ _ _ => ds.length - (intOf i).toNat)
      case atStart => exact ⟨0, Nat.zero_le _, rfl, Below.refl _ _, fun j _ h => by omega⟩
      case round =>
        obtain ⟨k, hk, rfl, hbX, hall⟩ := hrel
        rename World => X
        have Hall := Lib.hid hall
        clear hall
        have C1 := C0.below hbX
        have q0 := C1.cell 0
        have q3 := C1.cell 3
        have lq := C1.lt
        simp at q0 q3
        have bX := b0.trans (hbX.mono b0.size)
        by_cases hlt : k < ds.length
        · have hkI : (k : Int) < (ds.length : Int) := by omega
          obtain ⟨bd, od, al, cl, rfl, hbd, d0, d1, d2, d3, hPa⟩ := (hd.below bX) k hlt
          have H1 := Lib.hid (Hone2.out k hlt)
          obtain ⟨d, hde⟩ : ∃ d, ds[k] = d := ⟨_, rfl⟩
          have hpl := lp _ (List.getElem_mem hlt)
          rw [hde] at d0 d1 d2 d3 hPa H1 hpl
          obtain ⟨py, lo, hi2, l⟩ := d
          dsimp only at d0 d1 d2 d3 hPa hpl
          have Hde := Lib.hid hde
          have i3 := rin_any py 0 (st - 1)
          have i4 := rin_any lo 1 hi2
          have hh : headB st ⟨py, lo, hi2, l⟩ = (inR py 0 (st - 1) && inR lo 1 hi2 && decide (hi2 ≤ 200) && decide (0 < l.length)) := rfl
          have H2 : Hid (headB st ⟨py, lo, hi2, l⟩ = false → E = 1) := Lib.hid fun h => H1.out (by rw [disB_head, h]; simp)
          clear hde
          cases c6 : inR py 0 (st - 1)
          · obtain rfl : E = 1 := H2.out (by rw [hh, c6]; rfl)
            rw [c6] at i3
            clear H1 H2 Hone2 Hzero2 hh
            go_wp2_with (go_at_call 21; (with_reducible refine (i3 _).mono ?_); rintro e _ ⟨rfl, rfl⟩)
            go_ret
            exact ⟨rfl, by (repeat (first | exact Below.refl _ _ | refine Below.alloc ?_ (by first | omega | (simp; done) | (simp; omega)) _ | refine Below.drew ?_ | refine Below.setCell ?_ (by first | omega | (simp; done) | (simp; omega)) _ | refine Below.trans ?_ (Below.mono (by assumption) (by first | omega | (simp; done) | (simp; omega)))))⟩
          rw [c6] at i3 hh
          cases c7 : inR lo 1 hi2
          · obtain rfl : E = 1 := H2.out (by rw [hh, c7]; rfl)
            rw [c7] at i4
            clear H1 H2 Hone2 Hzero2 hh
            go_wp2_with (first | (go_at_call 21; (with_reducible refine (i3 _).mono ?_); rintro e _ ⟨rfl, rfl⟩) | (go_at_call 21; (with_reducible refine (i4 _).mono ?_); rintro e _ ⟨rfl, rfl⟩))
            go_ret
            exact ⟨rfl, by (repeat (first | exact Below.refl _ _ | refine Below.alloc ?_ (by first | omega | (simp; done) | (simp; omega)) _ | refine Below.drew ?_ | refine Below.setCell ?_ (by first | omega | (simp; done) | (simp; omega)) _ | refine Below.trans ?_ (Below.mono (by assumption) (by first | omega | (simp; done) | (simp; omega)))))⟩
          rw [c7] at i4 hh
          by_cases c8 : 200 < hi2
          · obtain rfl : E = 1 := H2.out (by rw [hh, show decide (hi2 ≤ 200) = false by simp; omega]; rfl)
            have c8d : decide (200 < hi2) = true := by simpa using c8
            clear H1 H2 Hone2 Hzero2 hh c8
            go_wp2_with (first | (go_at_call 21; (with_reducible refine (i3 _).mono ?_); rintro e _ ⟨rfl, rfl⟩) | (go_at_call 21; (with_reducible refine (i4 _).mono ?_); rintro e _ ⟨rfl, rfl⟩))
            go_ret
            exact ⟨rfl, by (repeat (first | exact Below.refl _ _ | refine Below.alloc ?_ (by first | omega | (simp; done) | (simp; omega)) _ | refine Below.drew ?_ | refine Below.setCell ?_ (by first | omega | (simp; done) | (simp; omega)) _ | refine Below.trans ?_ (Below.mono (by assumption) (by first | omega | (simp; done) | (simp; omega)))))⟩
          have c8d : decide (200 < hi2) = false := by simpa using c8
          by_cases c9 : l.length = 0
          · obtain rfl : E = 1 := H2.out (by rw [hh, c9]; simp)
            have c9d : ((l.length : Int) == 0) = true := by rw [c9]; rfl
            clear H1 H2 Hone2 Hzero2 hh c9 c8
            go_wp2_with (first | (go_at_call 21; (with_reducible refine (i3 _).mono ?_); rintro e _ ⟨rfl, rfl⟩) | (go_at_call 21; (with_reducible refine (i4 _).mono ?_); rintro e _ ⟨rfl, rfl⟩))
            go_ret
            exact ⟨rfl, by (repeat (first | exact Below.refl _ _ | refine Below.alloc ?_ (by first | omega | (simp; done) | (simp; omega)) _ | refine Below.drew ?_ | refine Below.setCell ?_ (by first | omega | (simp; done) | (simp; omega)) _ | refine Below.trans ?_ (Below.mono (by assumption) (by first | omega | (simp; done) | (simp; omega)))))⟩
          have c9d : ((l.length : Int) == 0) = false := by rw [beq_eq_false_iff_ne]; omega
          have hht : headB st ⟨py, lo, hi2, l⟩ = true := by rw [hh, show decide (hi2 ≤ 200) = true by simp; omega, show decide (0 < l.length) = true by simp; omega]; rfl
          have H3 : Hid (onceB st l = false → E = 1) := Lib.hid fun h => H1.out (disB_once h)
          have H4 : Hid (onceB st l = true → ∀ j (h : j < ds.length), j < k + 1 → disB st ds[j] = true) := Lib.hid fun h j hj hjk => by
            by_cases e : j = k
            · subst e; rw [Hde.out, disB_head, h, hht]; rfl
            · exact Hall.out j hj (by omega)
          clear H1 H2 hh hht c8 c9
          have bX1 : Below X.heap.size X (X.alloc (.cells #[.int .i64 py, .int .i64 lo, .int .i64 hi2, .slice al l.length cl] 48)) := (Below.refl _ _).alloc (Nat.le_refl _) _
          have C5 := Cells.new X #[.int .i64 py, .int .i64 lo, .int .i64 hi2, .slice al l.length cl] 48
          obtain ⟨X1, hX1⟩ : ∃ z : World, z = X.alloc (.cells #[.int .i64 py, .int .i64 lo, .int .i64 hi2, .slice al l.length cl] 48) := ⟨_, rfl⟩
          rw [← hX1] at bX1 C5
          go_wp2_with (first | (go_at_call 21; (with_reducible refine (i3 _).mono ?_); rintro e _ ⟨rfl, rfl⟩) | (go_at_call 21; (with_reducible refine (i4 _).mono ?_); rintro e _ ⟨rfl, rfl⟩))
          rw [← hX1]
          clear hX1 i3 i4 q0 q3 lq d0 d1 d2 d3
          have hP1 := hPa.at_.below bX1
          have C6 := C1.below bX1
          go_loopw [6, 7] (fun i _ Y => ∃ m : Nat, m ≤ l.length ∧ i = .int .i64 m ∧ Below X1.heap.size X1 Y ∧ OnceTo st l m) (fun i _ _ => l.length - (intOf i).toNat)
          case atStart => exact ⟨0, Nat.zero_le _, rfl, Below.refl _ _, fun j h => by omega, fun j h => by omega⟩
          case round =>
            obtain ⟨m, hm, rfl, hbY, hon⟩ := hrel
            rename World => Y
            have Hon := Lib.hid hon
            clear hon
            have C7 := C6.below hbY
            have C8 := C5.below hbY
            have q0 := C7.cell 0
            have lq := C7.lt
            have p2 := C8.cell 3
            have lp2 := C8.lt
            simp at q0 p2
            have bXY := bX1.trans (hbY.mono bX1.size)
            by_cases hml : m < l.length
            · have hmI : (m : Int) < (l.length : Int) := by omega
              obtain ⟨b2, o2, rfl, hb2, hc2⟩ := (hP1.below hbY) m hml
              obtain ⟨s, hs⟩ : ∃ s, l.getD m 0 = s := ⟨_, rfl⟩
              rw [hs] at hc2
              have Hs := Lib.hid hs
              have i5 := rin_any s 0 (st - 1)
              clear hs
              cases c10 : inR s 0 (st - 1)
              · obtain rfl : E = 1 := H3.out (once_out hml (by rw [Hs.out]; exact c10))
                rw [c10] at i5
                clear H3 H4 Hone2 Hzero2
                go_wp2
                (refine wp_region_ext 10 (by kernel_rfl) (by kernel_rfl) ?_; simp only [List.take_succ_cons, List.take_zero, List.drop_succ_cons, List.drop_zero]; (repeat (go_big_quiet_step (((go_at_call 21; refine Calls_ext_same (i5 _)))))); refine wpQuiet_nil ?_; rintro _ ⟨ex, rfl⟩; have hex := ex.below; have hexz := ex.size; (try simp at hexz); (try (have hy0 : w.heap.size < ex.to.heap.size := by omega)); (try (have hy1 : w.heap.size + 1 < ex.to.heap.size := by omega)); (try (have hy2 : w.heap.size + 2 < ex.to.heap.size := by omega)))
                go_wp2
                go_ret
                exact ⟨rfl, bX.trans ((bXY.trans (hex.mono bXY.size)).mono bX.size)⟩
              · rw [c10] at i5
                have Hr := Lib.hid c10
                clear c10
                go_wp2
                (refine wp_region_ext 10 (by kernel_rfl) (by kernel_rfl) ?_; simp only [List.take_succ_cons, List.take_zero, List.drop_succ_cons, List.drop_zero]; (repeat (go_big_quiet_step (((go_at_call 21; refine Calls_ext_same (i5 _)))))); refine wpQuiet_nil ?_; rintro _ ⟨ex, rfl⟩; have hex := ex.below; have hexz := ex.size; (try simp at hexz); (try (have hy0 : w.heap.size < ex.to.heap.size := by omega)); (try (have hy1 : w.heap.size + 1 < ex.to.heap.size := by omega)); (try (have hy2 : w.heap.size + 2 < ex.to.heap.size := by omega)))
                go_wp2
                have C9 := C8.below hex
                have bY9 := hbY.trans (hex.mono hbY.size)
                clear q0 lq p2 lp2 hc2
                go_loopw [7] (fun i Z => ∃ n : Nat, n ≤ m ∧ i = .int .i64 n ∧ Below ex.to.heap.size ex.to Z ∧ ∀ j, j < n → l.getD j 0 ≠ s) (fun i _ => m - (intOf i).toNat)
                case atStart => exact ⟨0, Nat.zero_le _, rfl, Below.refl _ _, fun j h => by omega⟩
                case round =>
                  obtain ⟨n, hn, rfl, hbZ, hno⟩ := hrel
                  rename World => Z
                  have Hno := Lib.hid hno
                  clear hno
                  have CA := C9.below hbZ
                  have p2 := CA.cell 3
                  have lp2 := CA.lt
                  simp at p2
                  have bYZ := bY9.trans (hbZ.mono bY9.size)
                  by_cases hnm : n < m
                  · have hnI : (n : Int) < (m : Int) := by omega
                    have hnl : (n : Int) < (l.length : Int) := by omega
                    obtain ⟨b3, o3, e3, hb3, hc3⟩ := (hP1.below bYZ) n (by omega)
                    cases e3
                    obtain ⟨b4, o4, e4, hb4, hc4⟩ := (hP1.below bYZ) m hml
                    cases e4
                    rw [Hs.out] at hc4
                    obtain ⟨x, hx⟩ : ∃ x, l.getD n 0 = x := ⟨_, rfl⟩
                    rw [hx] at hc3
                    have Hx := Lib.hid hx
                    clear hx
                    by_cases hxs : x = s
                    · have hxb : (x == s) = true := by simpa using hxs
                      obtain rfl : E = 1 := H3.out (once_twice hnm hml (by rw [Hx.out, Hs.out]; exact hxs))
                      clear H3 H4 Hone2 Hzero2 hxs
                      go_wp2
                      (refine wp_region_ext 11 (by kernel_rfl) (by kernel_rfl) ?_; simp only [List.take_succ_cons, List.take_zero, List.drop_succ_cons, List.drop_zero]; (repeat (go_big_quiet_step ((fail)))); refine wpQuiet_nil ?_; rintro _ ⟨ex, rfl⟩; have hex := ex.below; have hexz := ex.size; (try simp at hexz); (try (have hy0 : w.heap.size < ex.to.heap.size := by omega)); (try (have hy1 : w.heap.size + 1 < ex.to.heap.size := by omega)); (try (have hy2 : w.heap.size + 2 < ex.to.heap.size := by omega)))
                      go_wp2
                      go_ret
                      have t9 := bX1.trans (bYZ.mono bX1.size)
                      exact ⟨rfl, bX.trans ((t9.trans (hex.mono t9.size)).mono bX.size)⟩
                    · have hxb : (x == s) = false := by simpa using hxs
                      have Hn2 : Hid (∀ j, j < n + 1 → l.getD j 0 ≠ s) := Lib.hid fun j hj => by
                        by_cases e : j = n
                        · subst e; rw [Hx.out]; exact hxs
                        · exact Hno.out j (by omega)
                      clear hxs
                      go_wp2
                      (refine wp_region_ext 11 (by kernel_rfl) (by kernel_rfl) ?_; simp only [List.take_succ_cons, List.take_zero, List.drop_succ_cons, List.drop_zero]; (repeat (go_big_quiet_step ((fail)))); refine wpQuiet_nil ?_; rintro _ ⟨ex, rfl⟩; have hex := ex.below; have hexz := ex.size; (try simp at hexz); (try (have hy0 : w.heap.size < ex.to.heap.size := by omega)); (try (have hy1 : w.heap.size + 1 < ex.to.heap.size := by omega)); (try (have hy2 : w.heap.size + 2 < ex.to.heap.size := by omega)))
                      go_wp2
                      go_roundw
                      case rel => exact ⟨n + 1, by omega, by go_num, hbZ.trans (hex.mono hbZ.size), Hn2.out⟩
                      case measure => simp [intOf]; omega
                  · obtain rfl : n = m := by omega
                    have Ho2 : Hid (OnceTo st l (n + 1)) := Lib.hid ⟨fun j hj => by
                      by_cases e : j = n
                      · subst e; rw [Hs.out]; exact Hr.out
                      · exact Hon.out.1 j (by omega), fun j hj i hi => by
                      by_cases e : j = n
                      · subst e; rw [Hs.out]; exact Hno.out i hi
                      · exact Hon.out.2 j (by omega) i hi⟩
                    go_wp2
                    go_roundw
                    case rel => exact ⟨n + 1, by omega, by go_num, bYZ, Ho2.out⟩
                    case measure => simp [intOf]; omega
            · obtain rfl : m = l.length := by omega
              have Hk := Lib.hid (H4.out Hon.out.all)
              go_wp2
              go_roundw
              case rel => exact ⟨k + 1, by omega, by go_num, hbX.trans (bXY.mono hbX.size), Hk.out⟩
              case measure => simp [intOf]; omega
        · obtain rfl : k = ds.length := by omega
          obtain rfl : E = 0 := Hzero2.out fun j h => Hall.out j h h
          clear Hzero2 Hone2
          go_wp2
          go_ret
          exact ⟨rfl, bX⟩
end
end Go.Proofs.Ytaphfibfjepceaa
