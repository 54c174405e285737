/- arguments with a bound on their size; a route as an argument; one route more -/
import Derived.Test.YtfclemnkcpadpaaSd
import Derived.Test.YtfclemnkcpadpaaSe
import Derived.Test.YtfclemnkcpadpaaPd
import Derived.Test.YtfclemnkcpadpaaRn
namespace Go.Proofs.Ytfclemnkcpadpaa
set_option linter.unusedVariables false
set_option linter.unusedSimpArgs false
set_option linter.unnecessarySimpa false
open Go.RowKit Go.Flow
open Go.ChangeShapes Go.WideShapes Go.ChangeAt Go.Deep Go.Joins

section
variable {H : Type} {enc : TypeId × Value → H} {P : Program} {w : World} {base : Nat} {spare : Nat → Bool} {held : Bool}
theorem sized_len {ts : List TypeId} {ds : List (DataW H)} (hsz : (DataW.weightsEach P ts ds).all (· ≤ reachBytes) = true) {j : Nat} {t e : TypeId} {a : Option Addr} {n c : Nat} {d : DataW H} {p : List MemPlace} (hj : ts[j]? = some t) (hd : ds[j]? = some d) (ht : P.underlying t = some (.slice e))
    (h : DataW.Trod enc P w base spare held t (.slice a n c) d p) : n * P.bytesOf e ≤ 140737488351232 := by
  obtain ⟨fuel, hf⟩ := h
  rcases open_slice ht hf with ⟨h0, _⟩ | ⟨a', len, cap, m, n', D, Pl, hcs, hb, hl, hm, hmm, hx, hi⟩
  · simp [Value.cells] at h0
    obtain ⟨_, rfl, _⟩ := h0
    omega
  · simp [Value.cells] at hcs
    obtain ⟨rfl, rfl, rfl⟩ := hcs
    obtain ⟨rfl, _⟩ := Prod.mk.inj hx
    have h2 := sized_slice hsz hj hd ht
    simp only [List.length_map, List.length_range] at h2
    refine Nat.le_trans (Nat.mul_le_mul_right _ (Nat.le_add_right _ _)) h2
end
section
variable {H : Type} {enc : TypeId × Value → H} {w : World} {base : Nat} {spare : Nat → Bool} {held : Bool}
set_option maxRecDepth 100000 in
theorem open_postz {r : Reach} {b0 : Nat} {v : Value} {d : DataW H} {p : List MemPlace} {ts : List TypeId} {ds : List (DataW H)} {j : Nat} (hsz : (DataW.weightsEach Try.prog ts ds).all (· ≤ reachBytes) = true) (hj : ts[j]? = some 25) (hd : ds[j]? = some d)
    (hv : Value.okWide Try.prog w r b0 25 v) (h : DataW.Trod enc Try.prog w base spare held 25 v d p) :
    ∃ (a : Option Addr) (c : Nat) (ar : Option Addr) (cr : Nat) (q : Post), v = .agg #[.slice a q.sends.length c, .slice ar q.routes.length cr, .int .i64 q.pat] ∧ IntsAt w a q.sends ∧ RoutesAt w ar q.routes ∧ (a = none → c = 0) ∧ PostBig q ∧ (ar = none → cr = 0) ∧ q.routes.length * 32 ≤ 140737488351232 := by
  obtain ⟨v0, v1, v2, y0, y1, y2, n, rfl, hd2, _, t0, t1, t2⟩ := open_agg3 Try.underlying25 (by kernel_rfl) (by kernel_rfl) hv h
  obtain ⟨a, xs, c, e0, hx, hn, q0, q1⟩ := open_ints5 t0
  obtain ⟨ar, rs, cr, e1, hr, hnr, q2, q3, q4⟩ := open_routes t1
  obtain ⟨pat, e2, _, _⟩ := DataW.trod_int Try.underlying3 t2
  have hw : ∀ m ∈ (DataW.agg [y0.1, y1.1, y2.1]).weights Try.prog 25, m ≤ reachBytes := by
    intro m hm
    rw [← hd2] at hm
    have := List.all_eq_true.1 hsz m (DataW.weights_mem_each hj hd m hm)
    simpa using this
  have hw2 : (DataW.weightsEach Try.prog [22, 23, 3] [y0.1, y1.1, y2.1]).all (· ≤ reachBytes) = true := by
    rw [List.all_eq_true]
    intro m hm
    refine decide_eq_true (hw m ?_)
    simp only [DataW.weights, Try.underlying25]
    exact hm
  simp at e0 e1 e2
  subst e0 e1 e2
  have hz := sized_len (a := ar) (n := rs.length) (c := cr) (d := y1.1) (p := y1.2) hw2 (j := 1) rfl rfl Try.underlying23 ⟨n, t1⟩
  rw [show Try.prog.bytesOf 54 = 32 by kernel_rfl] at hz
  exact ⟨a, c, ar, cr, ⟨xs, rs, pat⟩, rfl, hx, hr, hn, ⟨by show xs.length ≤ maxLen; omega, by show rs.length ≤ maxLen; omega, q4⟩, hnr, hz⟩
set_option maxRecDepth 100000 in
theorem open_route {r : Reach} {b0 : Nat} {v : Value} {d : DataW H} {p : List MemPlace} (hv : Value.okWide Try.prog w r b0 54 v) (h : DataW.Trod enc Try.prog w base spare held 54 v d p) :
    ∃ (al : Option Addr) (ca : Nat) (x : Route), v = .agg #[.slice al x.legs.length ca, .bool x.lossy] ∧ LegsAt w al x.legs ∧ RouteBig x := by
  obtain ⟨cs, rfl, hsz⟩ := okWide_struct Try.underlying54 hv
  obtain ⟨fuel, hf⟩ := h
  have hl : cs.toList.length = 2 := by
    rw [Array.length_toList, hsz]; kernel_rfl
  obtain ⟨x, al, c, e, hx, hb⟩ := open_routeC (cs := cs.toList) hf hl
  refine ⟨al, c, x, ?_, hx, hb⟩
  rw [← Array.toArray_toList (xs := cs), e]
end
theorem more_big {p : Post} {m : Route} (h : PostBig p) (hm : RouteBig m) (hz : p.routes.length * 32 ≤ 140737488351232) : PostBig (withMore p m) := by
  refine ⟨h.s, by simp [withMore]; unfold maxLen; omega, fun r hr => ?_⟩
  rcases List.mem_append.1 hr with hr | hr
  · exact h.l r hr
  · simp at hr; subst hr; exact hm
theorem more_inside {p : Post} {m : Route} (h0 : postErr p = 0) (h1 : postErr (withMore p m) = 0) : insideB (sureOut p) (sureOut (withMore p m)) = true := by
  unfold insideB
  rw [List.all_eq_true]
  intro x hx
  unfold hasL
  rw [List.any_eq_true]
  exact ⟨x, more_sure h0 h1 x hx, by simp⟩
theorem routes_more {w : World} {a : Option Addr} {B c : Nat} {E : TypeId} {rs : List Route} {ps : List (Option Addr × Nat)} {m : Route} {al : Option Addr} {ca : Nat} (h : OwnL E 2 B w a c (rs.length + 1) (((rs.zip ps).flatMap fun x => routeV x.1 x.2) ++ routeV m (al, ca))) (hl : ps.length = rs.length)
    (hs : ∀ (q : Nat) r pp, rs[q]? = some r → ps[q]? = some pp → LegsAt w pp.1 r.legs) (hm : LegsAt w al m.legs) : RoutesAt w a (rs ++ [m]) := by
  rcases h.form with ⟨_, _, h0, _⟩ | ⟨g, rfl, _⟩
  · omega
  · obtain ⟨_, row⟩ := h.row
    have e : ((rs.zip ps).flatMap fun x => routeV x.1 x.2) ++ routeV m (al, ca) = ((rs ++ [m]).zip (ps ++ [(al, ca)])).flatMap fun x => routeV x.1 x.2 := by
      rw [List.zip_append hl.symm, List.flatMap_append]; simp
    rw [e] at row
    refine routes_of_row row (by simp [hl]) (fun q r pp h1 h2 => ?_)
    by_cases hq : q < rs.length
    · rw [List.getElem?_append_left hq] at h1
      rw [List.getElem?_append_left (by omega)] at h2
      exact hs q r pp h1 h2
    · have hq1 : q = rs.length := by
        have := (List.getElem?_eq_some_iff.1 h1).1
        simp at this
        omega
      subst hq1
      rw [List.getElem?_append_right (Nat.le_refl _)] at h1
      rw [← hl, List.getElem?_append_right (Nat.le_refl _)] at h2
      simp at h1 h2
      subst h1 h2
      exact hm
end Go.Proofs.Ytfclemnkcpadpaa
