/- copies: Play -/
import Derived.Test.YtfclemnkcpadpaaKf
namespace Go.Proofs.Ytfclemnkcpadpaa
set_option linter.unusedVariables false
set_option linter.unusedSimpArgs false
set_option linter.unnecessarySimpa false
open Go.RowKit Go.Flow

theorem postErr_ok {p : Post} (h : postErr p = 0) : p.sends.length ≤ 4 ∧ p.routes.length ≤ 3 ∧ p.routes.all routeFew = true ∧ p.sends ≠ [] ∧ p.routes ≠ [] ∧ inR p.pat (0, 30) = true ∧ p.sends.all (fun n => inR n (0, 30)) = true ∧ risesB p.sends = true ∧ p.routes.all routeOk = true := by
  unfold postErr at h
  split at h
  · cases h
  · rename_i h1
    split at h
    · cases h
    · rename_i h2
      simp only [not_or, Nat.not_lt, Bool.not_eq_false] at h1 h2
      exact ⟨h1.1, h1.2.1, h1.2.2, h2.1, h2.2.1, h2.2.2.1, h2.2.2.2.1, h2.2.2.2.2.1, h2.2.2.2.2.2⟩
theorem postErr_bd (p : Post) : 0 ≤ postErr p ∧ postErr p ≤ 3 := by
  unfold postErr; split
  · omega
  · split <;> omega
theorem inR_iff {n lo hi : Int} : inR n (lo, hi) = true ↔ lo ≤ n ∧ n ≤ hi := by simp [inR]
theorem post_hours {p : Post} (h : postErr p = 0) : PostHours p := by
  obtain ⟨_, _, _, _, _, h6, h7, _, _⟩ := postErr_ok h
  exact ⟨fun n hn => inR_iff.1 (List.all_eq_true.1 h7 n hn), inR_iff.1 h6⟩
theorem post_legs {p : Post} (h : postErr p = 0) : ∀ r ∈ p.routes, r.legs.length ≤ 3 ∧ r.legs.all legOk = true ∧ ∀ l ∈ r.legs, l.asl.length ≤ 1000 := by
  obtain ⟨_, _, h3, _, _, _, _, _, h9⟩ := postErr_ok h
  intro r hr
  have a := List.all_eq_true.1 h3 r hr
  have b := List.all_eq_true.1 h9 r hr
  simp only [routeFew, routeOk, Bool.and_eq_true, decide_eq_true_eq] at a b
  refine ⟨a.1, b.2, fun l hl => ?_⟩
  have := List.all_eq_true.1 a.2 l hl
  simp at this; omega

theorem midE_no2 : ∀ (l : List (List Int)) (rs : List Route) (right : Bool) (f : Bool → Int), midE right l rs f = 2 ∨ (∃ b, midE right l rs f = f b ∧ (b = true → right = true ∧ ∀ (j : Nat) (h1 : j < l.length) (h2 : j < rs.length), inB l[j] rs[j].legs = true) ∧ ∀ (j : Nat) (h1 : j < l.length) (h2 : j < rs.length), rowBad rs[j] l[j] = false)
  | [], _, right, f => .inr ⟨right, by simp [midE], fun h => ⟨h, fun j h1 => by simp at h1⟩, fun j h1 => by simp at h1⟩
  | _ :: _, [], right, f => .inr ⟨right, by simp [midE], fun h => ⟨h, fun j h1 h2 => by simp at h2⟩, fun j h1 h2 => by simp at h2⟩
  | ts :: l, r :: rs, right, f => by
    simp only [midE]
    cases hb : rowBad r ts
    · simp only [Bool.false_eq_true, if_false]
      rcases midE_no2 l rs (right && inB ts r.legs) f with h | ⟨b, h1, h2, h3⟩
      · exact .inl h
      · refine .inr ⟨b, h1, fun hbt => ?_, fun j h1 h2 => ?_⟩
        · obtain ⟨ha, hj⟩ := h2 hbt
          simp only [Bool.and_eq_true] at ha
          refine ⟨ha.1, fun j h1 h2 => ?_⟩
          cases j with
          | zero => exact ha.2
          | succ j => exact hj j (by simpa using h1) (by simpa using h2)
        · cases j with
          | zero => exact hb
          | succ j => exact h3 j (by simpa using h1) (by simpa using h2)
    · exact .inl (by simp)
theorem outE_ok {rs : List Route} : ∀ (t : List (List (List Int))) (right : Bool), outE rs right t = 0 → right = true ∧ ∀ l ∈ t, l.length = rs.length ∧ ∀ (j : Nat) (h1 : j < l.length) (h2 : j < rs.length), rowBad rs[j] l[j] = false ∧ inB l[j] rs[j].legs = true
  | [], right, h => by
    cases right
    · simp [outE] at h
    · exact ⟨rfl, fun l hl => by simp at hl⟩
  | l :: t, right, h => by
    simp only [outE] at h
    split at h
    · cases h
    · rename_i hlen
      have hlen' : l.length = rs.length := by omega
      rcases midE_no2 l rs right (fun r => outE rs r t) with h2 | ⟨b, h1, h2, h3⟩
      · rw [h2] at h; cases h
      · rw [h1] at h
        obtain ⟨hb, ht⟩ := outE_ok t b h
        obtain ⟨hr, hin⟩ := h2 hb
        refine ⟨hr, fun l' hl' => ?_⟩
        rcases List.mem_cons.1 hl' with rfl | hl'
        · exact ⟨hlen', fun j a b => ⟨h3 j a b, hin j a b⟩⟩
        · exact ht l' hl'
theorem inB_bd : ∀ (ts : List Int) (ls : List Leg), ts.length = ls.length → ls.all legOk = true → inB ts ls = true → ∀ t ∈ ts, 0 ≤ t ∧ t ≤ 100
  | [], _, _, _, _ => fun t ht => by simp at ht
  | x :: ts, [], hl, _, _ => by simp at hl
  | x :: ts, l :: ls, hl, ho, hi => by
    simp only [inB, Bool.and_eq_true, List.all_cons] at hi ho
    intro t ht
    rcases List.mem_cons.1 ht with rfl | ht
    · have h1 := inR_iff.1 hi.1
      have h2 := ho.1
      simp only [legOk, uptoB, Bool.and_eq_true, decide_eq_true_eq] at h2
      omega
    · exact inB_bd ts ls (by simpa using hl) ho.2 hi.2 t ht
theorem playOk_of {p : Post} {t : List (List (List Int))} (h : postErr p = 0) (hs : shapeErr p t = 0) : PlayOk p t := by
  obtain ⟨h1, h2, h3, _, _, _, _, _, h9⟩ := postErr_ok h
  unfold shapeErr at hs
  split at hs
  · cases hs
  · rename_i hl
    obtain ⟨_, hall⟩ := outE_ok t true hs
    refine ⟨by omega, h1, h2, post_hours h, post_legs h, fun l hl => (hall l hl).1, fun l hl j a b => ?_⟩
    obtain ⟨hb, hi⟩ := (hall l hl).2 j a b
    have hlen : l[j] ≠ [] → l[j].length = p.routes[j].legs.length := fun hne => by
      have : 0 < l[j].length := List.length_pos_iff.2 hne
      unfold rowBad at hb
      have h0 : decide (l[j].length = 0) = false := by simp; exact hne
      rw [h0, Bool.and_false] at hb
      simpa using hb
    refine ⟨hlen, ?_⟩
    by_cases hne : l[j] = []
    · intro t ht; rw [hne] at ht; simp at ht
    · exact inB_bd _ _ (hlen hne) (post_legs h _ (List.getElem_mem b)).2.1 hi

def playErr (p : Post) (t : List (List (List Int))) : Int := if postErr p = 0 then shapeErr p t else postErr p
def playOut (p : Post) (t : List (List (List Int))) : List Ent := if playErr p t = 0 then playF p t else []
theorem outE_bd {rs : List Route} : ∀ (t : List (List (List Int))) (right : Bool), 0 ≤ outE rs right t ∧ outE rs right t ≤ 11
  | [], right => by cases right <;> simp [outE]
  | l :: t, right => by
    simp only [outE]
    split
    · omega
    · rcases midE_no2 l rs right (fun r => outE rs r t) with h2 | ⟨b, h1, _⟩
      · omega
      · rw [h1]; exact outE_bd t b
theorem shapeErr_bd (p : Post) (t : List (List (List Int))) : 0 ≤ shapeErr p t ∧ shapeErr p t ≤ 11 := by
  unfold shapeErr; split
  · omega
  · exact outE_bd t true

/-- Sizes that the conversions of the law keep. -/
structure TruthSmall (t : List (List (List Int))) : Prop where
  n : t.length ≤ 1000
  l : ∀ l ∈ t, l.length ≤ 1000
  r : ∀ l ∈ t, ∀ ts ∈ l, ts.length ≤ 1000
def RetEnts (E : Int) (l : List Ent) (e : Ending) (w' : World) : Prop := ∃ a c, e = .returned (.tuple #[.slice a l.length c, .int .i64 E]) ∧ EntsAt w' a l

set_option maxHeartbeats 2000000 in
theorem Play_any (a : Option Addr) (c : Nat) (ar : Option Addr) (cr : Nat) (p : Post) (at_ : Option Addr) (ct : Nat) (t : List (List (List Int))) (w : World) (hs : IntsAt w a p.sends) (hr : RoutesAt w ar p.routes) (sm : PostSmall p) (ht : TruthAt w at_ t) (st : TruthSmall t) :
    Calls Try.prog 22 #[.agg #[.slice a p.sends.length c, .slice ar p.routes.length cr, .int .i64 p.pat], .slice at_ t.length ct] w fun e w' => RetEnts (playErr p t) (playOut p t) e w' ∧ Below w.heap.size w w' := by
  have chk := fun W (b : Below w.heap.size w W) => checkPost_any a c ar cr p W (hs.below b) (hr.below b) sm
  have shp := fun W (b : Below w.heap.size w W) => shaped_any a c ar cr p at_ ct t W (hr.below b) (ht.below b) sm.s sm.r sm.l st.n st.l st.r
  have bd := postErr_bd p
  have bs := shapeErr_bd p t
  have C0 : Cells (w.alloc (.cells #[.slice a p.sends.length c, .slice ar p.routes.length cr, .int .i64 p.pat] 34)) w.heap.size #[.slice a p.sends.length c, .slice ar p.routes.length cr, .int .i64 p.pat] 34 := Cells.new _ _ _
  have t0 : Below w.heap.size w (w.alloc (.cells #[.slice a p.sends.length c, .slice ar p.routes.length cr, .int .i64 p.pat] 34)) := (Below.refl _ _).alloc (Nat.le_refl _) _
  by_cases h0 : postErr p = 0
  · have Hp := Lib.hid h0
    rw [h0] at chk
    by_cases h1 : shapeErr p t = 0
    · have hE : playErr p t = 0 := by unfold playErr; rw [if_pos h0, h1]
      have hO : playOut p t = playF p t := by unfold playOut; rw [if_pos hE]
      have ok := playOk_of h0 h1
      have ply := fun W (b : Below w.heap.size w W) => play_any a c ar cr p at_ ct t W (hs.below b) (hr.below b) (ht.below b) ok
      rw [h1] at shp
      rw [hE, hO]
      clear h0 h1 hE hO bd bs ok
      have hl : (playF p t).length = t.length := playGo_len p t 0 0
      have Hl := Lib.hid hl
      clear hl
      go_enter Try.func22, Try.ntmps22
      go_wp2_with fail
      go_at_call 20
      with_reducible refine (chk _ t0).mono ?_
      rintro e w1 ⟨rfl, hb1⟩
      have C1 := C0.below hb1
      have t1 : Below w.heap.size w w1 := (t0.trans (hb1.mono t0.size))
      clear C0 hb1
      have k0 := C1.cell 0
      have k1 := C1.cell 1
      have k2 := C1.cell 2
      have lC := C1.lt
      simp at k0 k1 k2
      go_wp2_with fail
      go_at_call 64
      with_reducible refine (shp _ t1).mono ?_
      rintro e w2 ⟨rfl, hb2⟩
      have C2 := C1.below hb2
      have t2 : Below w.heap.size w w2 := (t1.trans (hb2.mono t1.size))
      clear C1 hb2 k0 k1 k2 lC
      have k0 := C2.cell 0
      have k1 := C2.cell 1
      have k2 := C2.cell 2
      have lC := C2.lt
      simp at k0 k1 k2
      go_wp2_with fail
      go_at_call 65
      with_reducible refine (ply _ t2).mono ?_
      rintro e w3 ⟨⟨ao, co, rfl, ho⟩, hb3⟩
      go_wp2_with fail
      go_ret2
      exact ⟨⟨ao, co, by rw [Hl.out]; rfl, ho.ents⟩, t2.trans (hb3.mono t2.size)⟩
    · have hE : playErr p t = shapeErr p t := by unfold playErr; rw [if_pos h0]
      have hO : playOut p t = [] := by unfold playOut; rw [if_neg (by rw [hE]; exact h1)]
      rw [hE, hO]
      obtain ⟨E, hEe⟩ : ∃ E, shapeErr p t = E := ⟨_, rfl⟩
      rw [hEe] at shp bs h1 ⊢
      have hne : (E != 0) = true := by simpa using h1
      clear h0 h1 hE hO bd hEe
      go_enter Try.func22, Try.ntmps22
      go_wp2_with fail
      go_at_call 20
      with_reducible refine (chk _ t0).mono ?_
      rintro e w1 ⟨rfl, hb1⟩
      have C1 := C0.below hb1
      have t1 : Below w.heap.size w w1 := (t0.trans (hb1.mono t0.size))
      clear C0 hb1
      have k0 := C1.cell 0
      have k1 := C1.cell 1
      have k2 := C1.cell 2
      have lC := C1.lt
      simp at k0 k1 k2
      go_wp2_with fail
      go_at_call 64
      with_reducible refine (shp _ t1).mono ?_
      rintro e w2 ⟨rfl, hb2⟩
      have C2 := C1.below hb2
      have t2 : Below w.heap.size w w2 := (t1.trans (hb2.mono t1.size))
      clear C1 hb2 k0 k1 k2 lC
      have k0 := C2.cell 0
      have k1 := C2.cell 1
      have k2 := C2.cell 2
      have lC := C2.lt
      simp at k0 k1 k2
      go_wp2_with fail
      go_ret2
      exact ⟨⟨none, 0, rfl, EntsAt.nil _ _⟩, t2⟩
  · have hE : playErr p t = postErr p := by unfold playErr; rw [if_neg h0]
    have hO : playOut p t = [] := by unfold playOut; rw [if_neg (by rw [hE]; exact h0)]
    rw [hE, hO]
    obtain ⟨E, hEe⟩ : ∃ E, postErr p = E := ⟨_, rfl⟩
    rw [hEe] at chk bd h0 ⊢
    have hne : (E != 0) = true := by simpa using h0
    clear h0 hE hO bs hEe
    go_enter Try.func22, Try.ntmps22
    go_wp2_with fail
    go_at_call 20
    with_reducible refine (chk _ t0).mono ?_
    rintro e w1 ⟨rfl, hb1⟩
    have C1 := C0.below hb1
    have t1 : Below w.heap.size w w1 := (t0.trans (hb1.mono t0.size))
    clear C0 hb1
    have k0 := C1.cell 0
    have k1 := C1.cell 1
    have k2 := C1.cell 2
    have lC := C1.lt
    simp at k0 k1 k2
    go_wp2_with fail
    go_ret2
    exact ⟨⟨none, 0, rfl, EntsAt.nil _ _⟩, t1⟩
end Go.Proofs.Ytfclemnkcpadpaa
