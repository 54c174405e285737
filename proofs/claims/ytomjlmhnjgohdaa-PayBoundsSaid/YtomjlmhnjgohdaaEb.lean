/- PayWords: the walk -/
import Derived.Test.YtomjlmhnjgohdaaBv
namespace Go.Proofs.Ytomjlmhnjgohdaa
set_option linter.unusedVariables false
set_option linter.unusedSimpArgs false
set_option linter.unnecessarySimpa false
open Go.RowKit Go.Flow Go.Shelf

theorem box_cells {w w1 : World} {cs : Array Value} {T : TypeId} {W : World} (h : Below W.heap.size W w1) (k : Nat) {v : Value} (hv : cs[k]? = some v) (hW : W = (w.alloc (.cells cs T)) := by rfl) : w1.cell? ⟨w.heap.size, k, none⟩ = some v := by
  subst hW
  exact below_cell h (by rw [(Cells.new w cs T).cell]; exact hv)
theorem box2_cells {w w1 : World} {cs ds : Array Value} {T U : TypeId} (h : Below ((w.alloc (.cells cs T)).alloc (.cells ds U)).heap.size ((w.alloc (.cells cs T)).alloc (.cells ds U)) w1) : Cells w1 w.heap.size cs T ∧ Cells w1 (w.heap.size + 1) ds U :=
  ⟨((Cells.new w cs T).alloc _).below h, (Cells.new' _ _ _ _ (by simp)).below h⟩
/-- The words that fit a claim, and the error. -/
def wOut (a : Acc) (cq cs cp : Int) : List Int := if accErr a = 0 ∧ inR cq 0 ((a.ds.length : Int) - 1) = true then wordsOut a.rate a.keeps (a.ds.getD cq.toNat ⟨0, 0, 0, []⟩) cs cp else []
def wErr (a : Acc) (cq cs cp : Int) : Int := if accErr a = 0 then (if inR cq 0 ((a.ds.length : Int) - 1) = true then wordsErr a.rate a.keeps (a.ds.getD cq.toNat ⟨0, 0, 0, []⟩) cs cp else 2) else accErr a
theorem in_nat {cq : Int} {n : Nat} (h : inR cq 0 ((n : Int) - 1) = true) : ∃ i : Nat, cq = (i : Int) ∧ i < n := ⟨cq.toNat, by have := inR_iff.1 h; omega, by have := inR_iff.1 h; omega⟩
theorem words_all (st rate keeps : Int) (ds : List Dis) (ad : Option Addr) (cd : Nat) (cq cs cp : Int) (w : World) (O : List Int) (E : Int) (HO : Hid (wOut ⟨st, rate, keeps, ds⟩ cq cs cp = O)) (HE : Hid (wErr ⟨st, rate, keeps, ds⟩ cq cs cp = E)) (hd : DisAt w ad ds) (SM : Hid (AccSmall ⟨st, rate, keeps, ds⟩)) :
    Calls Try.prog 29 #[.agg #[.int .i64 st, .int .i64 rate, .int .i64 keeps, .slice ad ds.length cd], .agg #[.int .i64 cq, .int .i64 cs, .int .i64 cp]] w fun e w' => (∃ a c, e = .returned (.tuple #[.slice a O.length c, .int .i64 E]) ∧ IntsAt w' a O) ∧ Below w.heap.size w w' := by
  by_cases h0 : accErr ⟨st, rate, keeps, ds⟩ = 0
  · cases hq : inR cq 0 ((ds.length : Int) - 1)
    · obtain rfl : O = [] := by rw [← HO.out, wOut, if_neg (by simp [hq])]
      obtain rfl : E = 2 := by rw [← HE.out, wErr, if_pos h0, if_neg (by simp [hq])]
      refine (Words_out st rate keeps ds ad cd cq cs cp w hd SM.out h0 hq).mono ?_
      rintro e w' ⟨he, hb⟩
      exact ⟨⟨none, 0, he, IntsAt.nil _ _⟩, hb⟩
    · obtain ⟨i, rfl, hi⟩ := in_nat hq
      have e1 : O = wordsOut rate keeps ds[i] cs cp := by rw [← HO.out, wOut, if_pos ⟨h0, hq⟩]; simp [hi]
      have e2 : E = wordsErr rate keeps ds[i] cs cp := by rw [← HE.out, wErr, if_pos h0, if_pos hq]; simp [hi]
      subst e1 e2
      exact Words_in st rate keeps ds ad cd i cs cp w hd SM.out h0 hi
  · obtain rfl : O = [] := by rw [← HO.out, wOut, if_neg (by simp [h0])]
    obtain rfl : E = accErr ⟨st, rate, keeps, ds⟩ := by rw [← HE.out, wErr, if_neg h0]
    refine (Words_bad st rate keeps ds ad cd cq cs cp w hd SM.out _ rfl h0).mono ?_
    rintro e w' ⟨he, hb⟩
    exact ⟨⟨none, 0, he, IntsAt.nil _ _⟩, hb⟩
theorem rWords_all (st rate keeps : Int) (ds : List Dis) (ad : Option Addr) (cd : Nat) (cq cs cp : Int) (w : World) (O : List Int) (E : Int) (H0 : Hid (accErr ⟨st, rate, keeps, ds⟩ = 0)) (HO : Hid (wOut ⟨st, rate, keeps, ds⟩ cq cs cp = O)) (HE : Hid (wErr ⟨st, rate, keeps, ds⟩ cq cs cp = E)) (hd : DisAt w ad ds) :
    Calls Try.prog 30 #[.agg #[.int .i64 st, .int .i64 rate, .int .i64 keeps, .slice ad ds.length cd], .agg #[.int .i64 cq, .int .i64 cs, .int .i64 cp]] w fun e w' => (∃ a c, e = .returned (.tuple #[.slice a O.length c, .int .i64 E]) ∧ IntsAt w' a O) ∧ Below w.heap.size w w' := by
  have h0 := H0.out
  cases hq : inR cq 0 ((ds.length : Int) - 1)
  · obtain rfl : O = [] := by rw [← HO.out, wOut, if_neg (by simp [hq])]
    obtain rfl : E = 2 := by rw [← HE.out, wErr, if_pos h0, if_neg (by simp [hq])]
    refine (rWords_out st rate keeps ds ad cd cq cs cp w h0 hq).mono ?_
    rintro e w' ⟨he, hb⟩
    exact ⟨⟨none, 0, he, IntsAt.nil _ _⟩, hb⟩
  · obtain ⟨i, rfl, hi⟩ := in_nat hq
    have e1 : O = wordsOut rate keeps ds[i] cs cp := by rw [← HO.out, wOut, if_pos ⟨h0, hq⟩]; simp [hi]
    have e2 : E = wordsErr rate keeps ds[i] cs cp := by rw [← HE.out, wErr, if_pos h0, if_pos hq]; simp [hi]
    subst e1 e2
    exact rWords_in st rate keeps ds ad cd cs cp w hd h0 i hi
theorem wOut_len {a : Acc} (h0 : accErr a = 0) (cq cs cp : Int) : (wOut a cq cs cp).length ≤ 1000 := by
  unfold wOut
  split
  · rename_i h
    obtain ⟨i, rfl, hi⟩ := in_nat h.2
    have G := (good_of h0).w _ (List.getElem_mem hi)
    have e : a.ds.getD (i : Int).toNat ⟨0, 0, 0, []⟩ = a.ds[i] := by simp [hi]
    rw [e]
    unfold wordsOut
    split
    · simp
    · have := fitsL_len a.rate a.keeps a.ds[i] (idxF a.ds[i].passed cs).toNat cp (a.ds[i].hi - a.ds[i].lo + 1).toNat
      omega
  · simp
def AccVal (st rate keeps : Int) (ds : List Dis) (v : Value) (w : World) : Prop := ∃ a c, v = .agg #[.int .i64 st, .int .i64 rate, .int .i64 keeps, .slice a ds.length c] ∧ DisAt w a ds
theorem AccVal.kept {st rate keeps : Int} {ds : List Dis} {v : Value} {w w' : World} (h : AccVal st rate keeps ds v w) (hb : Below w.heap.size w w') : AccVal st rate keeps ds v w' := let ⟨a, c, h1, h2⟩ := h; ⟨a, c, h1, h2.below hb⟩
def TupV (O : List Int) (E : Int) (v : Value) (w : World) : Prop := ∃ a c, v = .tuple #[.slice a O.length c, .int .i64 E] ∧ IntsAt w a O
theorem TupV.kept {O : List Int} {E : Int} {v : Value} {w w' : World} (h : TupV O E v w) (hb : Below w.heap.size w w') : TupV O E v w' := let ⟨a, c, h1, h2⟩ := h; ⟨a, c, h1, h2.below hb⟩
def SlcV (O : List Int) (v : Value) (w : World) : Prop := ∃ a c, v = .slice a O.length c ∧ IntsAt w a O
theorem SlcV.kept {O : List Int} {v : Value} {w w' : World} (h : SlcV O v w) (hb : Below w.heap.size w w') : SlcV O v w' := let ⟨a, c, h1, h2⟩ := h; ⟨a, c, h1, h2.below hb⟩

set_option maxRecDepth 100000 in
set_option maxHeartbeats 8000000 in
theorem words_a1 (st rate keeps : Int) (ds : List Dis) (ad : Option Addr) (cd : Nat) (cq cs cp : Int) (w : World) (hd : DisAt w ad ds) (big : AccBig ds) (hT : thinB ds = false) :
    Calls Try.prog 4 #[.agg #[.int .i64 st, .int .i64 rate, .int .i64 keeps, .slice ad ds.length cd], .agg #[.int .i64 cq, .int .i64 cs, .int .i64 cp]] w fun e w' => e = .returned (.bool true) ∧ Below w.heap.size w w' := by
  have HB := Lib.hid big
  have HT := Lib.hid hT
  clear hT big
  go_enter Try.func4, Try.ntmps4
  go_wp2_with fail
  go_at_call 16
  refine (thin_eq st rate keeps ds ad cd _ false HT (hd.below (by (repeat (first | exact Below.refl _ _ | refine Below.alloc ?_ (by first | omega | (simp; done) | (simp; omega)) _ | refine Below.drew ?_ | refine Below.setCell ?_ (by first | omega | (simp; done) | (simp; omega)) _ | refine Below.trans ?_ (Below.mono (by assumption) (by first | omega | (simp; done) | (simp; omega))))))) HB).mono ?_
  rintro e w1 ⟨rfl, b1⟩
  have t1 : Below w.heap.size w w1 := by (repeat (first | exact Below.refl _ _ | refine Below.alloc ?_ (by first | omega | (simp; done) | (simp; omega)) _ | refine Below.drew ?_ | refine Below.setCell ?_ (by first | omega | (simp; done) | (simp; omega)) _ | refine Below.trans ?_ (Below.mono (by assumption) (by first | omega | (simp; done) | (simp; omega)))))
  replace hd := hd.below t1
  have qa := (box2_cells b1).1
  have qb := (box2_cells b1).2
  go_wp2_with fail
  go_at_call 17
  refine (awake_any _).mono ?_
  rintro e w2 ⟨rfl, b2⟩
  have j2 : Below w1.heap.size w1 w2 := by (repeat (first | exact Below.refl _ _ | refine Below.alloc ?_ (by first | omega | (simp; done) | (simp; omega)) _ | refine Below.drew ?_ | refine Below.setCell ?_ (by first | omega | (simp; done) | (simp; omega)) _ | refine Below.trans ?_ (Below.mono (by assumption) (by first | omega | (simp; done) | (simp; omega)))))
  have t2 : Below w.heap.size w w2 := t1.trans (j2.mono t1.size)
  replace hd := hd.below j2
  replace qa := qa.below j2
  replace qb := qb.below j2
  go_wp2_with fail
  go_ret
  exact ⟨rfl, t2⟩
set_option maxRecDepth 100000 in
set_option maxHeartbeats 8000000 in
theorem words_a2 (st rate keeps : Int) (ds : List Dis) (ad : Option Addr) (cd : Nat) (cq cs cp : Int) (w : World) (hd : DisAt w ad ds) (big : AccBig ds) (hT : thinB ds = true) (E : Int) (hE : accErr ⟨st, rate, keeps, ds⟩ = E) (hne : E ≠ 0) :
    Calls Try.prog 4 #[.agg #[.int .i64 st, .int .i64 rate, .int .i64 keeps, .slice ad ds.length cd], .agg #[.int .i64 cq, .int .i64 cs, .int .i64 cp]] w fun e w' => e = .returned (.bool true) ∧ Below w.heap.size w w' := by
  have HB := Lib.hid big
  have HT := Lib.hid hT
  have SM := Lib.hid (thin_small (st := st) (rate := rate) (keeps := keeps) hT)
  obtain ⟨O, hO⟩ : ∃ O, wOut ⟨st, rate, keeps, ds⟩ cq cs cp = O := ⟨_, rfl⟩
  obtain ⟨EO, hEO⟩ : ∃ E, wErr ⟨st, rate, keeps, ds⟩ cq cs cp = E := ⟨_, rfl⟩
  obtain rfl : O = [] := by rw [← hO, wOut, if_neg (by simp [hE, hne])]
  obtain rfl : EO = E := by rw [← hEO, wErr, if_neg (by simp [hE, hne]), hE]
  have HO := Lib.hid hO
  have HEO := Lib.hid hEO
  have HE := Lib.hid hE
  have hne1 : (EO != 0) = true := by simpa using hne
  clear hT big hE hO hEO hne
  go_enter Try.func4, Try.ntmps4
  go_wp2_with fail
  go_at_call 16
  refine (thin_eq st rate keeps ds ad cd _ true HT (hd.below (by (repeat (first | exact Below.refl _ _ | refine Below.alloc ?_ (by first | omega | (simp; done) | (simp; omega)) _ | refine Below.drew ?_ | refine Below.setCell ?_ (by first | omega | (simp; done) | (simp; omega)) _ | refine Below.trans ?_ (Below.mono (by assumption) (by first | omega | (simp; done) | (simp; omega))))))) HB).mono ?_
  rintro e w1 ⟨rfl, b1⟩
  have t1 : Below w.heap.size w w1 := by (repeat (first | exact Below.refl _ _ | refine Below.alloc ?_ (by first | omega | (simp; done) | (simp; omega)) _ | refine Below.drew ?_ | refine Below.setCell ?_ (by first | omega | (simp; done) | (simp; omega)) _ | refine Below.trans ?_ (Below.mono (by assumption) (by first | omega | (simp; done) | (simp; omega)))))
  replace hd := hd.below t1
  have qa := (box2_cells b1).1
  have qb := (box2_cells b1).2
  have q0 := qa.cell 0
  have q1 := qa.cell 1
  have q2 := qa.cell 2
  have q3 := qa.cell 3
  have lq := qa.lt
  have k0 := qb.cell 0
  have k1 := qb.cell 1
  have k2 := qb.cell 2
  have lk := qb.lt
  simp at q0 q1 q2 q3 k0 k1 k2
  go_wp2_with fail
  (refine wp_region_seq 14 [] [14] 59 [true, false, true, true, true, true, true, true, true, false, false, false, false, false] [AccVal st rate keeps ds, TupV [] EO, TupV [] EO, SlcV [], IntV EO, SlcV []] (by kernel_rfl) (by kernel_rfl) rfl (mono_cons (fun v w w' h hb => h.kept hb) (mono_cons (fun v w w' h hb => h.kept hb) (mono_cons (fun v w w' h hb => h.kept hb) (mono_cons (fun v w w' h hb => h.kept hb) (mono_cons (fun v w w' h hb => h.kept hb) (mono_cons (fun v w w' h hb => h.kept hb) mono_nil)))))) ?_; simp only [pickOps, List.filterMap_cons, List.filterMap_nil, List.getElem?_toArray, List.getElem?_cons_succ, List.getElem?_cons_zero]; (repeat (refine wpFl_step _ rfl (fun w => (by go_simp; rfl)) ?_)); refine wpFl_nil ?_; simp only [maskOps, dummy, Act.put, List.setIfInBounds_toArray, List.set_cons_zero, List.set_cons_succ, List.take_succ_cons, List.take_zero, List.drop_succ_cons, List.drop_zero]; (repeat (refine wpQB_step (fun K hK => ?_); go_simp; first | (refine hK _ ?_; clear hK K) | (apply Exists.intro; refine ⟨fun ex => ?_, hK _ ?_⟩; (fail); clear hK K))); refine wpQB_nil ?_; simp only [relObl2, under, relEnd, and_true, List.nil_append, List.cons_append])
  refine ⟨⟨?_, ?_, ?_, ?_, ?_, ?_⟩, ?_⟩
  · intro e
    go_simp
    refine (account_eq st rate keeps ds ad cd _ (hd.below e.below) SM).mono ?_
    rintro r w' ⟨⟨a1, c1, rfl, h1⟩, hb⟩
    exact ⟨hb, a1, c1, rfl, h1⟩
  · intro e v1 h1
    obtain ⟨a1, c1, rfl, g1⟩ := h1 (by kernel_rfl)
    go_simp
    refine (words_all st rate keeps ds a1 c1 cq cs cp _ [] EO HO HEO g1 SM).mono ?_
    rintro r w' ⟨⟨a2, c2, rfl, h2⟩, hb⟩
    exact ⟨hb, a2, c2, rfl, h2⟩
  · intro e v1 h1 v2 h2
    obtain ⟨a2, c2, rfl, g2⟩ := h2 (by kernel_rfl)
    go_simp
    exact ⟨Below.refl _ _, a2, c2, rfl, g2⟩
  · intro e v1 h1 v2 h2 v3 h3
    obtain ⟨a2, c2, rfl, g3⟩ := h3 (by kernel_rfl)
    go_simp
    exact ⟨Below.refl _ _, a2, c2, rfl, g3⟩
  · intro e v1 h1 v2 h2 v3 h3 v4 h4
    obtain ⟨a2, c2, rfl, g3⟩ := h3 (by kernel_rfl)
    go_simp
    exact ⟨Below.refl _ _, rfl⟩
  · intro e v1 h1 v2 h2 v3 h3 v4 h4 v5 h5
    obtain ⟨a2, c2, rfl, g4⟩ := h4 (by kernel_rfl)
    go_simp
    exact ⟨Below.refl _ _, a2, c2, rfl, g4⟩
  rintro e v1 - v2 - v3 - v4 - v5 h5 v6 ⟨aO, cO, rfl, iO⟩
  obtain rfl : v5 = .int .i64 EO := h5
  simp only [Act.put, List.setIfInBounds_toArray, List.set_cons_zero, List.set_cons_succ]
  clear q0 q1 q2 q3 lq k0 k1 k2 lk
  have b2 := e.below
  obtain ⟨w2, hwq⟩ : ∃ x : World, x = e.to := ⟨_, rfl⟩
  rw [← hwq] at b2 iO ⊢
  clear hwq e
  have j2 : Below w1.heap.size w1 w2 := by (repeat (first | exact Below.refl _ _ | refine Below.alloc ?_ (by first | omega | (simp; done) | (simp; omega)) _ | refine Below.drew ?_ | refine Below.setCell ?_ (by first | omega | (simp; done) | (simp; omega)) _ | refine Below.trans ?_ (Below.mono (by assumption) (by first | omega | (simp; done) | (simp; omega)))))
  have t2 : Below w.heap.size w w2 := t1.trans (j2.mono t1.size)
  replace hd := hd.below j2
  replace qa := qa.below j2
  replace qb := qb.below j2
  have q0 := qa.cell 0
  have q1 := qa.cell 1
  have q2 := qa.cell 2
  have q3 := qa.cell 3
  have lq := qa.lt
  simp at q0 q1 q2 q3
  go_wp2_with fail
  go_at_call 23
  refine (fault_eq st rate keeps ds ad cd _ EO HE hd SM).mono ?_
  rintro e w3 ⟨rfl, b3⟩
  have j3 : Below w2.heap.size w2 w3 := by (repeat (first | exact Below.refl _ _ | refine Below.alloc ?_ (by first | omega | (simp; done) | (simp; omega)) _ | refine Below.drew ?_ | refine Below.setCell ?_ (by first | omega | (simp; done) | (simp; omega)) _ | refine Below.trans ?_ (Below.mono (by assumption) (by first | omega | (simp; done) | (simp; omega)))))
  have t3 : Below w.heap.size w w3 := t2.trans (j3.mono t2.size)
  replace hd := hd.below j3
  replace qa := qa.below j3
  replace qb := qb.below j3
  replace iO := iO.below j3
  clear q0 q1 q2 q3 lq
  go_wp2_with fail
  go_at_call 17
  refine (awake_any _).mono ?_
  rintro e w4 ⟨rfl, b4⟩
  have j4 : Below w3.heap.size w3 w4 := by (repeat (first | exact Below.refl _ _ | refine Below.alloc ?_ (by first | omega | (simp; done) | (simp; omega)) _ | refine Below.drew ?_ | refine Below.setCell ?_ (by first | omega | (simp; done) | (simp; omega)) _ | refine Below.trans ?_ (Below.mono (by assumption) (by first | omega | (simp; done) | (simp; omega)))))
  have t4 : Below w.heap.size w w4 := t3.trans (j4.mono t3.size)
  replace hd := hd.below j4
  replace qa := qa.below j4
  replace qb := qb.below j4
  replace iO := iO.below j4
  go_wp2_with fail
  go_ret
  exact ⟨rfl, t4⟩
set_option maxRecDepth 100000 in
set_option maxHeartbeats 8000000 in
theorem words_b1 (st rate keeps : Int) (ds : List Dis) (ad : Option Addr) (cd : Nat) (cq cs cp : Int) (w : World) (hd : DisAt w ad ds) (big : AccBig ds) (hT : thinB ds = true) (h0 : accErr ⟨st, rate, keeps, ds⟩ = 0) :
    Calls Try.prog 4 #[.agg #[.int .i64 st, .int .i64 rate, .int .i64 keeps, .slice ad ds.length cd], .agg #[.int .i64 cq, .int .i64 cs, .int .i64 cp]] w fun e w' => e = .returned (.bool true) ∧ Below w.heap.size w w' := by
  have HB := Lib.hid big
  have HT := Lib.hid hT
  have SM := Lib.hid (thin_small (st := st) (rate := rate) (keeps := keeps) hT)
  obtain ⟨O, hO⟩ : ∃ O, wOut ⟨st, rate, keeps, ds⟩ cq cs cp = O := ⟨_, rfl⟩
  obtain ⟨EO, hEO⟩ : ∃ E, wErr ⟨st, rate, keeps, ds⟩ cq cs cp = E := ⟨_, rfl⟩
  have hlO : O.length ≤ 1000 := by rw [← hO]; exact wOut_len h0 _ _ _
  have HO := Lib.hid hO
  have HEO := Lib.hid hEO
  have H0 := Lib.hid h0
  clear hT big h0 hO hEO
  go_enter Try.func4, Try.ntmps4
  go_wp2_with fail
  go_at_call 16
  refine (thin_eq st rate keeps ds ad cd _ true HT (hd.below (by (repeat (first | exact Below.refl _ _ | refine Below.alloc ?_ (by first | omega | (simp; done) | (simp; omega)) _ | refine Below.drew ?_ | refine Below.setCell ?_ (by first | omega | (simp; done) | (simp; omega)) _ | refine Below.trans ?_ (Below.mono (by assumption) (by first | omega | (simp; done) | (simp; omega))))))) HB).mono ?_
  rintro e w1 ⟨rfl, b1⟩
  have t1 : Below w.heap.size w w1 := by (repeat (first | exact Below.refl _ _ | refine Below.alloc ?_ (by first | omega | (simp; done) | (simp; omega)) _ | refine Below.drew ?_ | refine Below.setCell ?_ (by first | omega | (simp; done) | (simp; omega)) _ | refine Below.trans ?_ (Below.mono (by assumption) (by first | omega | (simp; done) | (simp; omega)))))
  replace hd := hd.below t1
  have qa := (box2_cells b1).1
  have qb := (box2_cells b1).2
  have q0 := qa.cell 0
  have q1 := qa.cell 1
  have q2 := qa.cell 2
  have q3 := qa.cell 3
  have lq := qa.lt
  have k0 := qb.cell 0
  have k1 := qb.cell 1
  have k2 := qb.cell 2
  have lk := qb.lt
  simp at q0 q1 q2 q3 k0 k1 k2
  go_wp2_with fail
  (refine wp_region_seq 14 [] [14] 59 [true, false, true, true, true, true, true, true, true, false, false, false, false, false] [AccVal st rate keeps ds, TupV O EO, TupV O EO, SlcV O, IntV EO, SlcV O] (by kernel_rfl) (by kernel_rfl) rfl (mono_cons (fun v w w' h hb => h.kept hb) (mono_cons (fun v w w' h hb => h.kept hb) (mono_cons (fun v w w' h hb => h.kept hb) (mono_cons (fun v w w' h hb => h.kept hb) (mono_cons (fun v w w' h hb => h.kept hb) (mono_cons (fun v w w' h hb => h.kept hb) mono_nil)))))) ?_; simp only [pickOps, List.filterMap_cons, List.filterMap_nil, List.getElem?_toArray, List.getElem?_cons_succ, List.getElem?_cons_zero]; (repeat (refine wpFl_step _ rfl (fun w => (by go_simp; rfl)) ?_)); refine wpFl_nil ?_; simp only [maskOps, dummy, Act.put, List.setIfInBounds_toArray, List.set_cons_zero, List.set_cons_succ, List.take_succ_cons, List.take_zero, List.drop_succ_cons, List.drop_zero]; (repeat (refine wpQB_step (fun K hK => ?_); go_simp; first | (refine hK _ ?_; clear hK K) | (apply Exists.intro; refine ⟨fun ex => ?_, hK _ ?_⟩; (fail); clear hK K))); refine wpQB_nil ?_; simp only [relObl2, under, relEnd, and_true, List.nil_append, List.cons_append])
  refine ⟨⟨?_, ?_, ?_, ?_, ?_, ?_⟩, ?_⟩
  · intro e
    go_simp
    refine (account_eq st rate keeps ds ad cd _ (hd.below e.below) SM).mono ?_
    rintro r w' ⟨⟨a1, c1, rfl, h1⟩, hb⟩
    exact ⟨hb, a1, c1, rfl, h1⟩
  · intro e v1 h1
    obtain ⟨a1, c1, rfl, g1⟩ := h1 (by kernel_rfl)
    go_simp
    refine (words_all st rate keeps ds a1 c1 cq cs cp _ O EO HO HEO g1 SM).mono ?_
    rintro r w' ⟨⟨a2, c2, rfl, h2⟩, hb⟩
    exact ⟨hb, a2, c2, rfl, h2⟩
  · intro e v1 h1 v2 h2
    obtain ⟨a2, c2, rfl, g2⟩ := h2 (by kernel_rfl)
    go_simp
    exact ⟨Below.refl _ _, a2, c2, rfl, g2⟩
  · intro e v1 h1 v2 h2 v3 h3
    obtain ⟨a2, c2, rfl, g3⟩ := h3 (by kernel_rfl)
    go_simp
    exact ⟨Below.refl _ _, a2, c2, rfl, g3⟩
  · intro e v1 h1 v2 h2 v3 h3 v4 h4
    obtain ⟨a2, c2, rfl, g3⟩ := h3 (by kernel_rfl)
    go_simp
    exact ⟨Below.refl _ _, rfl⟩
  · intro e v1 h1 v2 h2 v3 h3 v4 h4 v5 h5
    obtain ⟨a2, c2, rfl, g4⟩ := h4 (by kernel_rfl)
    go_simp
    exact ⟨Below.refl _ _, a2, c2, rfl, g4⟩
  rintro e v1 - v2 - v3 - v4 - v5 h5 v6 ⟨aO, cO, rfl, iO⟩
  obtain rfl : v5 = .int .i64 EO := h5
  simp only [Act.put, List.setIfInBounds_toArray, List.set_cons_zero, List.set_cons_succ]
  clear q0 q1 q2 q3 lq k0 k1 k2 lk
  have b2 := e.below
  obtain ⟨w2, hwq⟩ : ∃ x : World, x = e.to := ⟨_, rfl⟩
  rw [← hwq] at b2 iO ⊢
  clear hwq e
  have j2 : Below w1.heap.size w1 w2 := by (repeat (first | exact Below.refl _ _ | refine Below.alloc ?_ (by first | omega | (simp; done) | (simp; omega)) _ | refine Below.drew ?_ | refine Below.setCell ?_ (by first | omega | (simp; done) | (simp; omega)) _ | refine Below.trans ?_ (Below.mono (by assumption) (by first | omega | (simp; done) | (simp; omega)))))
  have t2 : Below w.heap.size w w2 := t1.trans (j2.mono t1.size)
  replace hd := hd.below j2
  replace qa := qa.below j2
  replace qb := qb.below j2
  have q0 := qa.cell 0
  have q1 := qa.cell 1
  have q2 := qa.cell 2
  have q3 := qa.cell 3
  have lq := qa.lt
  have k0 := qb.cell 0
  have k1 := qb.cell 1
  have k2 := qb.cell 2
  have lk := qb.lt
  simp at q0 q1 q2 q3 k0 k1 k2
  go_wp2_with fail
  go_at_call 23
  refine (fault_eq st rate keeps ds ad cd _ 0 H0 hd SM).mono ?_
  rintro e w3 ⟨rfl, b3⟩
  have j3 : Below w2.heap.size w2 w3 := by (repeat (first | exact Below.refl _ _ | refine Below.alloc ?_ (by first | omega | (simp; done) | (simp; omega)) _ | refine Below.drew ?_ | refine Below.setCell ?_ (by first | omega | (simp; done) | (simp; omega)) _ | refine Below.trans ?_ (Below.mono (by assumption) (by first | omega | (simp; done) | (simp; omega)))))
  have t3 : Below w.heap.size w w3 := t2.trans (j3.mono t2.size)
  replace hd := hd.below j3
  replace qa := qa.below j3
  replace qb := qb.below j3
  replace iO := iO.below j3
  replace q0 := below_cell j3 q0
  replace q1 := below_cell j3 q1
  replace q2 := below_cell j3 q2
  replace q3 := below_cell j3 q3
  replace k0 := below_cell j3 k0
  replace k1 := below_cell j3 k1
  replace k2 := below_cell j3 k2
  replace lq := Nat.lt_of_lt_of_le lq j3.size
  replace lk := Nat.lt_of_lt_of_le lk j3.size
  go_wp2_with fail
  go_at_call 30
  refine (rWords_all st rate keeps ds ad cd cq cs cp _ O EO H0 HO HEO hd).mono ?_
  rintro e w4 ⟨⟨aR, cR, rfl, iR⟩, b4⟩
  have j4 : Below w3.heap.size w3 w4 := by (repeat (first | exact Below.refl _ _ | refine Below.alloc ?_ (by first | omega | (simp; done) | (simp; omega)) _ | refine Below.drew ?_ | refine Below.setCell ?_ (by first | omega | (simp; done) | (simp; omega)) _ | refine Below.trans ?_ (Below.mono (by assumption) (by first | omega | (simp; done) | (simp; omega)))))
  have t4 : Below w.heap.size w w4 := t3.trans (j4.mono t3.size)
  replace hd := hd.below j4
  replace qa := qa.below j4
  replace qb := qb.below j4
  replace iO := iO.below j4
  replace q0 := below_cell j4 q0
  replace q1 := below_cell j4 q1
  replace q2 := below_cell j4 q2
  replace q3 := below_cell j4 q3
  replace k0 := below_cell j4 k0
  replace k1 := below_cell j4 k1
  replace k2 := below_cell j4 k2
  replace lq := Nat.lt_of_lt_of_le lq j4.size
  replace lk := Nat.lt_of_lt_of_le lk j4.size
  clear q0 q1 q2 q3 k0 k1 k2 lq lk
  go_wp2_with fail
  go_at_call 25
  refine (same2_eq aO O _ cO (Lib.hid rfl) aR _ cR (Lib.hid rfl) _ iO iR (by omega)).mono ?_
  rintro e w5 ⟨rfl, b5⟩
  have j5 : Below w4.heap.size w4 w5 := by (repeat (first | exact Below.refl _ _ | refine Below.alloc ?_ (by first | omega | (simp; done) | (simp; omega)) _ | refine Below.drew ?_ | refine Below.setCell ?_ (by first | omega | (simp; done) | (simp; omega)) _ | refine Below.trans ?_ (Below.mono (by assumption) (by first | omega | (simp; done) | (simp; omega)))))
  have t5 : Below w.heap.size w w5 := t4.trans (j5.mono t4.size)
  replace hd := hd.below j5
  replace qa := qa.below j5
  replace qb := qb.below j5
  replace iO := iO.below j5
  replace iR := iR.below j5
  clear iO iR
  go_wp2_with fail
  go_at_call 17
  refine (awake_any _).mono ?_
  rintro e w6 ⟨rfl, b6⟩
  have j6 : Below w5.heap.size w5 w6 := by (repeat (first | exact Below.refl _ _ | refine Below.alloc ?_ (by first | omega | (simp; done) | (simp; omega)) _ | refine Below.drew ?_ | refine Below.setCell ?_ (by first | omega | (simp; done) | (simp; omega)) _ | refine Below.trans ?_ (Below.mono (by assumption) (by first | omega | (simp; done) | (simp; omega)))))
  have t6 : Below w.heap.size w w6 := t5.trans (j6.mono t5.size)
  replace hd := hd.below j6
  replace qa := qa.below j6
  replace qb := qb.below j6
  go_wp2_with fail
  go_ret
  exact ⟨rfl, t6⟩
theorem words_walk (st rate keeps : Int) (ds : List Dis) (ad : Option Addr) (cd : Nat) (cq cs cp : Int) (w : World) (hd : DisAt w ad ds) (big : AccBig ds) :
    Calls Try.prog 4 #[.agg #[.int .i64 st, .int .i64 rate, .int .i64 keeps, .slice ad ds.length cd], .agg #[.int .i64 cq, .int .i64 cs, .int .i64 cp]] w fun e w' => e = .returned (.bool true) ∧ Below w.heap.size w w' := by
  by_cases hT : thinB ds = true
  · by_cases h0 : accErr ⟨st, rate, keeps, ds⟩ = 0
    · exact words_b1 st rate keeps ds ad cd cq cs cp w hd big hT h0
    · exact words_a2 st rate keeps ds ad cd cq cs cp w hd big hT _ rfl h0
  · exact words_a1 st rate keeps ds ad cd cq cs cp w hd big (by simpa using hT)
end Go.Proofs.Ytomjlmhnjgohdaa
