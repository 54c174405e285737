/- one route's legs are bared, cell by cell -/
import Derived.Test.YtfclemnkcpadpaaSe
import Derived.Test.YtfclemnkcpadpaaPi
namespace Go.Proofs.Ytfclemnkcpadpaa
set_option linter.unusedVariables false
set_option linter.unusedSimpArgs false
set_option linter.unnecessarySimpa false
open Go.RowKit Go.Flow

section
variable {P : Program} {t E : TypeId} {z : Value} {size bytes : Nat} {w : World} {ops : Array Oper} {rest : List Oper} {o : Oper} {a : Act} {Q : Exit → Act → World → Prop}
theorem wpList_app0 (el : Elem P t E z size bytes) (hgd : o.guard = none) (s x : Operand) (ho : o.op = .call { callee := .builtin .append, args := #[s, x], argTypes := #[t, t] })
    (base g : Nat) (hs : a.eval s = .slice (some ⟨g, 0, none⟩) 0 0) (hg : Cells w g #[] E) (hbg : base ≤ g) (ao : Option Addr) (m c : Nat) (news : List Value) (hx : a.eval x = .slice ao m c) (hnone : ao = none → m = 0 ∧ c = 0)
    (hl : news.length = m * size) (hsrc : SrcAt w ao news) (h63 : m ≤ maxLen) (hbytes : m * bytes ≤ 140737488355328)
    (h : ∀ a' c' w', OwnL E size base w' a' c' m news → Below w.heap.size w w' → wpList P ops Q rest (a.put o.dst (.slice a' m c')) w') : wpList P ops Q (o :: rest) a w := by
  obtain ⟨v, w', h1, ⟨a', c', rfl, h2⟩, h3⟩ := run_app0 el o.type w base g hg hbg ao m c news hnone hl hsrc h63 hbytes
  refine wpList_plain hgd fun K hK => ?_
  unfold Oper.wp
  simp only [execOp, ho, resolve, invoke, builtin, Sem.run_bind, Sem.run_pure, Result.andThen_ok, List.map_toArray, List.map_cons, List.map_nil, hs, hx, h1]
  exact hK _ _ (h a' c' w' h2 h3)
end
def bareV (l : Leg) : List Value := [.int .i64 l.lo, .int .i64 l.hi, .slice none 0 0]
/-- The legs' cells, the first k bared. -/
def ysK (ls : List Leg) (ps : List (Option Addr × Nat)) (k : Nat) : List Value := (ls.take k).flatMap bareV ++ ((ls.drop k).zip (ps.drop k)).flatMap fun x => legV x.1 x.2
theorem ysK_zero (ls : List Leg) (ps : List (Option Addr × Nat)) : ysK ls ps 0 = (ls.zip ps).flatMap fun x => legV x.1 x.2 := by simp [ysK]
theorem bareV_len : ∀ (ls : List Leg), (ls.flatMap bareV).length = ls.length * 3
  | [] => rfl
  | l :: ls => by rw [List.flatMap_cons, List.length_append, bareV_len ls, List.length_cons]; simp [bareV]; omega
theorem ysK_head {ls : List Leg} {ps : List (Option Addr × Nat)} (hl : ps.length = ls.length) {k : Nat} (hk : k < ls.length) : ysK ls ps k = (ls.take k).flatMap bareV ++ ([.int .i64 ls[k].lo, .int .i64 ls[k].hi, .slice (ps[k]'(by omega)).1 ls[k].asl.length (ps[k]'(by omega)).2] ++ ((ls.drop (k + 1)).zip (ps.drop (k + 1))).flatMap fun x => legV x.1 x.2) := by
  unfold ysK
  rw [List.drop_eq_getElem_cons hk, List.drop_eq_getElem_cons (show k < ps.length by omega), List.zip_cons_cons, List.flatMap_cons]
  rfl
theorem app_get (A B : List Value) {n j : Nat} (h : A.length = n) : (A ++ B)[n + j]? = B[j]? := by
  subst h
  rw [List.getElem?_append_right (by omega)]
  congr 1; omega
theorem app_set (A : List Value) : ∀ (B : List Value) {n j : Nat} (_ : A.length = n) (v : Value), (A ++ B).set (n + j) v = A ++ B.set j v := by
  induction A with
  | nil => intro B n j h v; simp only [List.length_nil] at h; subst h; simp
  | cons x A ih =>
    intro B n j h v
    simp only [List.length_cons] at h
    subst h
    rw [show A.length + 1 + j = A.length + j + 1 by omega, List.cons_append, List.set_cons_succ, ih B rfl v, List.cons_append]
theorem take_bare {ls : List Leg} {k : Nat} (hk : k < ls.length) : ((ls.take k).flatMap bareV).length = k * 3 := by rw [bareV_len, List.length_take, Nat.min_eq_left (by omega)]
theorem ysK_set {ls : List Leg} {ps : List (Option Addr × Nat)} (hl : ps.length = ls.length) {k : Nat} (hk : k < ls.length) : (ysK ls ps k).set (k * 3 + 2) (.slice none 0 0) = ysK ls ps (k + 1) := by
  rw [ysK_head hl hk, app_set _ _ (take_bare hk)]
  unfold ysK
  rw [List.take_succ_eq_append_getElem hk, List.flatMap_append]
  simp [bareV]
theorem ysK_at {ls : List Leg} {ps : List (Option Addr × Nat)} (hl : ps.length = ls.length) {k : Nat} (hk : k < ls.length) : (ysK ls ps k)[k * 3]? = some (.int .i64 ls[k].lo) ∧ (ysK ls ps k)[k * 3 + 1]? = some (.int .i64 ls[k].hi) ∧ (ysK ls ps (k + 1))[k * 3]? = some (.int .i64 ls[k].lo) ∧ (ysK ls ps (k + 1))[k * 3 + 1]? = some (.int .i64 ls[k].hi) ∧ (ysK ls ps k)[k * 3 + 2]? = some (.slice (ps[k]'(by omega)).1 ls[k].asl.length (ps[k]'(by omega)).2) := by
  have h0 : (ysK ls ps k)[k * 3 + 0]? = some (.int .i64 ls[k].lo) := by rw [ysK_head hl hk, app_get _ _ (take_bare hk)]; rfl
  have h1 : (ysK ls ps k)[k * 3 + 1]? = some (.int .i64 ls[k].hi) := by rw [ysK_head hl hk, app_get _ _ (take_bare hk)]; rfl
  have h2 : (ysK ls ps k)[k * 3 + 2]? = some (.slice (ps[k]'(by omega)).1 ls[k].asl.length (ps[k]'(by omega)).2) := by rw [ysK_head hl hk, app_get _ _ (take_bare hk)]; rfl
  rw [Nat.add_zero] at h0
  refine ⟨h0, h1, ?_, ?_, h2⟩
  · rw [← ysK_set hl hk, List.getElem?_set, if_neg (by omega)]; exact h0
  · rw [← ysK_set hl hk, List.getElem?_set, if_neg (by omega)]; exact h1
theorem legs_of_bare {w : World} {g : Nat} {E : TypeId} {ls : List Leg} {ps : List (Option Addr × Nat)} (h : RowAt w g E (ysK ls ps ls.length)) : LegsAt w (some ⟨g, 0, none⟩) (ls.map bareL) := fun k hk => by
  have hk' : k < ls.length := by simpa using hk
  have e : ysK ls ps ls.length = ls.flatMap bareV := by simp [ysK]
  rw [e] at h
  have gt : ∀ j, j < 3 → (ls.flatMap bareV)[k * 3 + j]? = (bareV ls[k])[j]? := fun j hj => flatMap_get 3 bareV (fun x => rfl) ls k j ls[k] (by simp) hj
  have e0 := h.cell ((gt 0 (by omega)).trans rfl)
  have e1 := h.cell ((gt 1 (by omega)).trans rfl)
  have e2 := h.cell ((gt 2 (by omega)).trans rfl)
  refine ⟨g, 0, none, 0, rfl, h.lt, ?_, ?_, ?_, ?_⟩
  · rw [Nat.zero_add, List.getElem_map]; exact e0
  · rw [Nat.zero_add, List.getElem_map]; exact e1
  · rw [Nat.zero_add, List.getElem_map]; exact e2
  · rw [List.getElem_map]; exact fun k hk => absurd hk (Nat.not_lt_zero k)
theorem routes_bared {w : World} {g : Nat} {E : TypeId} {rs : List Route} {ps : List (Option Addr × Nat)} {r : Nat} (hr : r < rs.length) {aL : Option Addr} {cL : Nat} (h : RowAt w g E (((rs.zip ps).flatMap fun x => routeV x.1 x.2).set (r * 2) (.slice aL rs[r].legs.length cL))) (hl : ps.length = rs.length)
    (hs : ∀ (q : Nat) x pp, rs[q]? = some x → ps[q]? = some pp → LegsAt w pp.1 x.legs) (hL : LegsAt w aL (rs[r].legs.map bareL)) : RoutesAt w (some ⟨g, 0, none⟩) (rs.modify r bareR) := fun k hk => by
  have hk' : k < rs.length := by simpa using hk
  have hlen := ownL_len (E := 3) (val := routeV) (l := rs) (ps := ps) routeV_len (by omega)
  have g0 := flat_get (val := routeV) routeV_len hl hk' (show 0 < 2 by omega)
  have g1 := flat_get (val := routeV) routeV_len hl hk' (show 1 < 2 by omega)
  have e1 : (((rs.zip ps).flatMap fun x => routeV x.1 x.2).set (r * 2) (.slice aL rs[r].legs.length cL))[k * 2 + 1]? = some (.bool rs[k].lossy) := by
    rw [List.getElem?_set, if_neg (by omega), g1]; rfl
  by_cases e : r = k
  · subst e
    refine ⟨g, 0, aL, cL, rfl, h.lt, ?_, ?_, ?_⟩
    · rw [Nat.zero_add, List.getElem_modify, if_pos rfl]
      refine h.cell ?_
      rw [List.getElem?_set, if_pos rfl, if_pos (by rw [hlen]; omega)]
      simp [bareR]
    · rw [Nat.zero_add, List.getElem_modify, if_pos rfl]; exact h.cell e1
    · rw [List.getElem_modify, if_pos rfl]; exact hL
  · refine ⟨g, 0, (ps[k]'(by omega)).1, (ps[k]'(by omega)).2, rfl, h.lt, ?_, ?_, ?_⟩
    · rw [Nat.zero_add, List.getElem_modify, if_neg e]
      refine h.cell ?_
      rw [List.getElem?_set, if_neg (by omega)]
      exact g0.trans rfl
    · rw [Nat.zero_add, List.getElem_modify, if_neg e]; exact h.cell e1
    · rw [List.getElem_modify, if_neg e]; exact hs k _ _ (by simp) (by simp)
end Go.Proofs.Ytfclemnkcpadpaa
