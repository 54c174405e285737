/- pay: the reference's Changes -/
import Derived.Test.YtomjlmhnjgohdaaBj
namespace Go.Proofs.Ytomjlmhnjgohdaa
set_option linter.unusedVariables false
set_option linter.unusedSimpArgs false
set_option linter.unnecessarySimpa false
open Go.RowKit Go.Flow Go.Shelf

/-- By how much m shares change the balance of a station. -/
def chgP (sh ps : List Int) (py : Int) : Nat → Int → Int
  | 0, _ => 0
  | m + 1, s => chgP sh ps py m s + (if ps.getD m 0 = s then sh.getD m 0 else 0) - (if py = s then sh.getD m 0 else 0)
def chgL (sh ps : List Int) (py : Int) (st m : Nat) : List Int := (List.range st).map fun (s : Nat) => chgP sh ps py m (s : Int)
theorem chgL_len (sh ps : List Int) (py : Int) (st m : Nat) : (chgL sh ps py st m).length = st := by simp [chgL]
theorem chgL_at (sh ps : List Int) (py : Int) {st : Nat} (m : Nat) {s : Nat} (h : s < st) : (chgL sh ps py st m).getD s 0 = chgP sh ps py m (s : Int) := by simp [chgL, h]
theorem chgL_zero (sh ps : List Int) (py : Int) (st : Nat) : chgL sh ps py st 0 = List.replicate st 0 := by
  apply list_ext_getD (by simp [chgL])
  intro i hi
  have hi : i < st := by simpa [chgL] using hi
  rw [chgL_at _ _ _ _ hi]; simp [chgP, hi]
theorem chgP_bd {sh ps : List Int} (py : Int) {b : Int} (hb : 0 ≤ b) (h : ∀ i, 0 ≤ sh.getD i 0 ∧ sh.getD i 0 ≤ b) (s : Int) : ∀ m : Nat, -(b * m) ≤ chgP sh ps py m s ∧ chgP sh ps py m s ≤ b * m
  | 0 => by simp [chgP]
  | m + 1 => by
    have ih := chgP_bd py hb h s (ps := ps) m
    have hm := h m
    have e : b * ((m + 1 : Nat) : Int) = b * (m : Int) + b := by push_cast; rw [Int.mul_add, Int.mul_one]
    rw [chgP, e]
    split <;> split <;> omega
theorem chgL_step (sh ps : List Int) (py : Nat) {st : Nat} (m p : Nat) (hp : ps.getD m 0 = (p : Int)) (hps : p < st) (hpy : py < st) {x y v : Int} (hx : (chgL sh ps py st m).getD p 0 = x) (hv : sh.getD m 0 = v) (hy : ((chgL sh ps py st m).set p (x + v)).getD py 0 = y) :
    ((chgL sh ps py st m).set p (x + v)).set py (y - v) = chgL sh ps py st (m + 1) := by
  apply list_ext_getD (by simp [chgL])
  intro i hi
  have hi : i < st := by simpa [chgL] using hi
  rw [getD_set _ _ _ _ (by simp [chgL_len]; exact hpy), getD_set _ _ _ _ (by rw [chgL_len]; exact hps), chgL_at _ _ _ _ hi, chgL_at _ _ _ _ hi]
  rw [getD_set _ _ _ _ (by rw [chgL_len]; exact hps), chgL_at _ _ _ _ hpy] at hy
  rw [chgL_at _ _ _ _ hps] at hx
  rw [chgP, hp, hv]
  subst hx
  by_cases e1 : py = i
  · subst e1
    by_cases e2 : p = py
    · subst e2; rw [if_pos rfl] at hy; simp; omega
    · rw [if_neg e2] at hy
      have : ¬ (p : Int) = (py : Int) := by omega
      rw [if_pos rfl, if_neg this, if_pos rfl]; omega
  · have n1 : ¬ (py : Int) = (i : Int) := by omega
    rw [if_neg e1, if_neg n1]
    by_cases e2 : p = i
    · subst e2; rw [if_pos rfl, if_pos rfl]; omega
    · have n2 : ¬ (p : Int) = (i : Int) := by omega
      rw [if_neg e2, if_neg n2]; omega
/-- All shares together. -/
def preS (sh : List Int) : Nat → Int
  | 0 => 0
  | m + 1 => preS sh m + sh.getD m 0
theorem preS_all (sh : List Int) : preS sh sh.length = sh.sum := by
  have h : ∀ m, m ≤ sh.length → preS sh m = (sh.take m).sum := by
    intro m
    induction m with
    | zero => intro _; simp [preS]
    | succ m ih =>
      intro hm
      rw [preS, ih (by omega), List.take_succ_eq_append_getElem (by omega), List.sum_append]
      simp [show m < sh.length by omega]
  rw [h _ (Nat.le_refl _), List.take_length]
theorem chgP_eq (sh ps : List Int) (py s : Int) (hn : ps.Nodup) : ∀ m, m ≤ ps.length → chgP sh ps py m s = (if 0 ≤ idxF (ps.take m) s then sh.getD (idxF (ps.take m) s).toNat 0 else 0) - (if py = s then preS sh m else 0)
  | 0, _ => by simp [chgP, preS, idxF, idxBy]
  | m + 1, hm => by
    have hml : m < ps.length := by omega
    have ht : ps.take (m + 1) = ps.take m ++ [ps[m]] := List.take_succ_eq_append_getElem hml
    have hg : ps.getD m 0 = ps[m] := by simp [hml]
    have aux : ∀ (l : List Int) (x : Int) (k : Nat), idxBy (fun y => s == y) (l ++ [x]) k = if 0 ≤ idxBy (fun y => s == y) l k then idxBy (fun y => s == y) l k else if s = x then ((k + l.length : Nat) : Int) else -1 := by
      intro l
      induction l with
      | nil => intro x k; by_cases e : s = x <;> simp [idxBy, e]
      | cons a t ih =>
        intro x k
        have hle := idxBy_le (fun y => s == y) t (k + 1)
        simp only [List.cons_append, idxBy, List.length_cons]
        by_cases e : (s == a) = true
        · rw [if_pos e, if_pos e, if_pos (by omega)]
        · rw [if_neg e, if_neg e, ih x (k + 1)]
          have : k + 1 + t.length = k + (t.length + 1) := by omega
          rw [this]
    have hout : (0 ≤ idxF (ps.take m) s) → ps[m] ≠ s := fun h0 e => by
      have hb := idxBy_any (fun y => s == y) (ps.take m) 0
      have : (ps.take m).any (fun y => s == y) = true := by
        rw [← hb]; simpa [idxF] using h0
      rw [List.any_eq_true] at this
      obtain ⟨y, hy, he⟩ := this
      have he : s = y := by simpa using he
      obtain ⟨i, hi, e2⟩ := List.getElem_of_mem hy
      simp only [List.length_take] at hi
      rw [List.getElem_take] at e2
      rw [List.nodup_iff_pairwise_ne, List.pairwise_iff_getElem] at hn
      exact hn i m (by omega) hml (by omega) (by rw [e2, ← he, e])
    rw [chgP, chgP_eq sh ps py s hn m (by omega), hg, preS]
    have hi : idxF (ps.take (m + 1)) s = if 0 ≤ idxF (ps.take m) s then idxF (ps.take m) s else if s = ps[m] then (m : Int) else -1 := by
      unfold idxF
      rw [ht, aux]
      simp [show m ≤ ps.length by omega]
    by_cases h0 : 0 ≤ idxF (ps.take m) s
    · have hne := hout h0
      rw [hi, if_pos h0, if_pos h0, if_neg hne]
      split <;> omega
    · by_cases e : s = ps[m]
      · rw [show idxF (ps.take (m + 1)) s = (m : Int) by rw [hi, if_neg h0, if_pos e], if_neg h0, if_pos (show ps[m] = s from e.symm), if_pos (show (0 : Int) ≤ (m : Int) from Int.natCast_nonneg m), Int.toNat_natCast]
        split <;> omega
      · rw [show idxF (ps.take (m + 1)) s = -1 by rw [hi, if_neg h0, if_neg e], if_neg h0, if_neg (show ¬ ps[m] = s from fun h => e h.symm), if_neg (show ¬ (0 : Int) ≤ -1 by omega)]
        split <;> omega
/-- The reference's changes are the program's. -/
theorem chg_full {st rate keeps : Int} {d : Dis} (hD : DisOk st d) (h5 : d.passed.length ≤ 5) (n s : Int) : chgP (sharesF rate keeps d.passed.length n) d.passed d.payer d.passed.length s = chF rate keeps d n s := by
  have hl : (sharesF rate keeps d.passed.length n).length = d.passed.length := sharesF_len _ _ _ _
  rw [chgP_eq _ _ _ _ hD.nd _ (Nat.le_refl _), List.take_length]
  have hp := preS_all (sharesF rate keeps d.passed.length n)
  rw [hl] at hp
  have hs := shares_sum (rate := rate) (keeps := keeps) n ⟨hD.pos, h5⟩
  rw [hp, hs]
  unfold chF
  split <;> split <;> omega
def chL (rate keeps : Int) (d : Dis) (n : Int) (st : Nat) : List Int := (List.range st).map fun (s : Nat) => chF rate keeps d n (s : Int)
theorem chL_len (rate keeps : Int) (d : Dis) (n : Int) (st : Nat) : (chL rate keeps d n st).length = st := by simp [chL]
theorem chL_at (rate keeps : Int) (d : Dis) (n : Int) {st s : Nat} (h : s < st) : (chL rate keeps d n st).getD s 0 = chF rate keeps d n (s : Int) := by simp [chL, h]
theorem RowI.other {w : World} {g : Nat} {l : List Int} (h : RowI w g l) {g' : Nat} (hne : g ≠ g') (k : Nat) (v : Value) : RowI (w.setCell ⟨g', k, none⟩ v) g l := RowAt.other h hne k v
theorem row_made {w : World} {g n : Nat} (hg : g = w.heap.size) : RowI (w.alloc (.cells (repV 0 0 n).toArray 3)) g (List.replicate n 0) := by
  refine ⟨_, Cells.new' _ _ _ _ hg, fun j u hu => ?_⟩
  have e : (List.replicate n (0 : Int)).map (Value.int .i64) = repV 0 0 n := by simp [repV]
  rw [e] at hu
  simpa using hu
section
variable (st rate keeps : Int) (ds : List Dis) (ad : Option Addr) (cd : Nat) (i : Nat) (n : Int) (w : World) (hd : DisAt w ad ds) (h0 : accErr ⟨st, rate, keeps, ds⟩ = 0) (hi : i < ds.length) (hn : 1 ≤ n ∧ n ≤ 200)
include hd h0 hi hn
set_option maxRecDepth 100000 in
set_option maxHeartbeats 4000000 in
theorem rChanges_any : Calls Try.prog 62 #[.agg #[.int .i64 st, .int .i64 rate, .int .i64 keeps, .slice ad ds.length cd], .int .i64 (i : Int), .int .i64 n] w fun e w' => (∃ g c, e = .returned (.slice (some ⟨g, 0, none⟩) st.toNat c) ∧ w.heap.size ≤ g ∧ RowI w' g (chL rate keeps ds[i] n st.toNat)) ∧ Below w.heap.size w w' := by
  have G := good_of h0
  simp only at G
  have A := accErr_ok h0
  have hst := A.st
  simp only at hst
  have hD := disB_ok (A.dis _ (List.getElem_mem hi))
  simp only at hD
  have h5 := (G.p _ (List.getElem_mem hi)).2
  have hn6 := G.n
  have rsh := fun W (b : Below w.heap.size w W) => rShares_any st rate keeps ds ad cd i n W (hd.below b) G hi hn
  have hsb := shares_bd (k := ds[i].passed.length) G.r G.k hn hD.pos
  have hfu : chL rate keeps ds[i] n st.toNat = chgL (sharesF rate keeps ds[i].passed.length n) ds[i].passed ds[i].payer st.toNat ds[i].passed.length := by
    unfold chL chgL
    exact List.map_congr_left fun s _ => (chg_full hD h5 n s).symm
  obtain ⟨bd, od, al, cl, rfl, hbd, d0, d1, d2, d3, hPa⟩ := hd i hi
  obtain ⟨d, hde⟩ : ∃ d, ds[i] = d := ⟨_, rfl⟩
  simp only [hde] at d0 d1 d2 d3 hPa hD h5 rsh hsb hfu ⊢
  clear hde
  obtain ⟨py, lo, hi2, l⟩ := d
  dsimp only at d0 d1 d2 d3 hPa h5 rsh hsb hfu
  obtain ⟨S, hS⟩ : ∃ S, sharesF rate keeps l.length n = S := ⟨_, rfl⟩
  have hSl : S.length = l.length := by rw [← hS]; exact sharesF_len _ _ _ _
  rw [hS] at hsb hfu
  simp only [hS] at rsh
  have hsb2 : ∀ j, 0 ≤ S.getD j 0 ∧ S.getD j 0 ≤ 8001 := fun j => by
    rcases Nat.lt_or_ge j S.length with h | h
    · exact hsb _ (getD_mem' h)
    · rw [List.getD_eq_getElem?_getD, List.getElem?_eq_none h]; simp
  obtain ⟨m, rfl⟩ : ∃ m : Nat, st = (m : Int) := ⟨st.toNat, by omega⟩
  have hpy := hD.payer
  have hin := hD.in_
  simp only [Int.toNat_natCast] at hfu ⊢
  obtain ⟨p, rfl⟩ : ∃ p : Nat, py = (p : Int) := ⟨py.toNat, by simp only at hpy; omega⟩
  obtain ⟨F, hF⟩ : ∃ F, chL rate keeps ⟨(p : Int), lo, hi2, l⟩ n m = F := ⟨_, rfl⟩
  rw [hF] at hfu ⊢
  have HF := Lib.hid hfu
  have Hsb := Lib.hid hsb2
  have Hin := Lib.hid hin
  have HSl := Lib.hid hSl
  simp only at hpy
  have hpm : p < m := by omega
  clear hF hfu hsb hsb2 hin hD hS hSl A G hpy
  obtain ⟨W0, hW0⟩ : ∃ z : World, z = w.alloc (.cells #[.int .i64 (m : Int), .int .i64 rate, .int .i64 keeps, .slice (some ⟨bd, od, none⟩) ds.length cd] 24) := ⟨_, rfl⟩
  have b0 : Below w.heap.size w W0 := by rw [hW0]; (repeat (first | exact Below.refl _ _ | refine Below.alloc ?_ (by first | omega | (simp; done) | (simp; omega)) _ | refine Below.drew ?_ | refine Below.setCell ?_ (by first | omega | (simp; done) | (simp; omega)) _ | refine Below.trans ?_ (Below.mono (by assumption) (by first | omega | (simp; done) | (simp; omega)))))
  have hmk := fun W => make_ints m (by omega) W
  have hiI : (i : Int) < (ds.length : Int) := by omega
  go_enter Try.func62, Try.ntmps62
  go_upto_region 2 with fail
  rw [← hW0]
  have C0 : Cells W0 w.heap.size #[.int .i64 (m : Int), .int .i64 rate, .int .i64 keeps, .slice (some ⟨bd, od, none⟩) ds.length cd] 24 := by rw [hW0]; exact Cells.new _ _ _
  have hz0 : W0.heap.size = w.heap.size + 1 := by rw [hW0]; simp
  obtain ⟨W1, hW1⟩ : ∃ z : World, z = W0.alloc (.cells (repV 0 0 m).toArray 3) := ⟨_, rfl⟩
  have b1 : Below W0.heap.size W0 W1 := by rw [hW1]; exact (Below.refl _ _).alloc (Nat.le_refl _) _
  have hR1 : RowI W1 (w.heap.size + 1) (List.replicate m 0) := by rw [hW1]; exact row_made hz0.symm
  have hz1 : W1.heap.size = w.heap.size + 1 + 1 := by rw [hW1]; simp [hz0]
  rw [← hW1]
  clear hW0 hW1
  have C1 := C0.below b1
  have t1 : Below w.heap.size w W1 := b0.trans (b1.mono b0.size)
  have q3 := C1.cell 3
  have lq := C1.lt
  simp at q3
  have e0 := below_cell t1 d0
  have e1 := below_cell t1 d1
  have e2 := below_cell t1 d2
  have e3 := below_cell t1 d3
  have lb1 := Nat.lt_of_lt_of_le hbd t1.size
  go_upto_region 3 with fail
  obtain ⟨W2, hW2⟩ : ∃ z : World, z = W1.alloc (.cells #[.int .i64 (p : Int), .int .i64 lo, .int .i64 hi2, .slice al l.length cl] 43) := ⟨_, rfl⟩
  have b2 : Below W1.heap.size W1 W2 := by rw [hW2]; exact (Below.refl _ _).alloc (Nat.le_refl _) _
  have C2 : Cells W2 (w.heap.size + 1 + 1) #[.int .i64 (p : Int), .int .i64 lo, .int .i64 hi2, .slice al l.length cl] 43 := by rw [hW2]; exact Cells.new' _ _ _ _ hz1.symm
  rw [← hW2]
  (try rw [hz1])
  have hz2 : W2.heap.size = w.heap.size + 1 + 1 + 1 := by rw [hW2]; simp [hz1]
  clear hW2 e0 e1 e2 e3 lb1 q3 lq d0 d1 d2 d3
  have hR2 := hR1.below b2
  have C3 := C1.below b2
  have t2 : Below w.heap.size w W2 := t1.trans (b2.mono t1.size)
  have q0 := C3.cell 0
  have q1 := C3.cell 1
  have q2 := C3.cell 2
  have q3 := C3.cell 3
  have lq := C3.lt
  simp at q0 q1 q2 q3
  go_wp2_with fail
  go_at_call 26
  refine (rsh _ t2).mono ?_
  rintro e W3 ⟨⟨gs, cs, rfl, hgs, hRs⟩, b3⟩
  have hR3 := hR2.below b3
  have C4 := C2.below b3
  have t3 : Below w.heap.size w W3 := t2.trans (b3.mono t2.size)
  obtain ⟨g, hg⟩ : ∃ g, w.heap.size + 1 = g := ⟨_, rfl⟩
  have hgw : w.heap.size ≤ g := by omega
  have hgs2 : gs ≠ g := by omega
  rw [hg] at hR3 C4 ⊢
  clear C0 C1 C2 C3 hR1 hR2 q0 q1 q2 q3 lq rsh b1 b2 b3 t1 t2
  go_wp2
  go_loopw [10] (fun k_ X => ∃ k : Nat, k ≤ l.length ∧ k_ = .int .i64 k ∧ RowI X g (chgL S l (p : Int) m k) ∧ RowI X gs S ∧ Cells X (g + 1) #[.int .i64 (p : Int), .int .i64 lo, .int .i64 hi2, .slice al l.length cl] 43 ∧ Below w.heap.size w X) (fun k_ _ => l.length - (intOf k_).toNat)
  case atStart => exact ⟨0, Nat.zero_le _, rfl, by rw [chgL_zero]; exact hR3, hRs, C4, t3⟩
  case round =>
    obtain ⟨k, hk, rfl, hRX, hRS, hCX, hbX⟩ := hrel
    rename World => X
    by_cases hlt : k < l.length
    · have hkI : (k : Int) < (l.length : Int) := by omega
      obtain ⟨bp, op, rfl, hbp, hcp⟩ := (hPa.at_.below hbX) k hlt
      have hs := Hin.out _ (getD_mem' hlt)
      obtain ⟨q, hq⟩ : ∃ q : Nat, l.getD k 0 = (q : Int) := ⟨(l.getD k 0).toNat, by omega⟩
      rw [hq] at hcp hs
      have hqm : q < m := by omega
      have hqI : (q : Int) < (m : Int) := by omega
      have hpI : (p : Int) < (m : Int) := by omega
      have cs := hRS.cell (k := k) (by rw [HSl.out]; exact hlt)
      have cx := hRX.cell (k := q) (by rw [chgL_len]; exact hqm)
      have hsv := Hsb.out k
      have hbq := chgP_bd (p : Int) (by decide : (0 : Int) ≤ 8001) Hsb.out (q : Int) k (ps := l)
      have hbp2 := chgP_bd (p : Int) (by decide : (0 : Int) ≤ 8001) Hsb.out (p : Int) k (ps := l)
      have hstep := fun x y v hx hv hy => chgL_step S l p k q hq hqm hpm (x := x) (y := y) (v := v) hx hv hy
      rw [← chgL_at S l (p : Int) k hqm] at hbq
      rw [← chgL_at S l (p : Int) k hpm] at hbp2
      obtain ⟨v, hv⟩ : ∃ v, S.getD k 0 = v := ⟨_, rfl⟩
      obtain ⟨x, hx⟩ : ∃ x, (chgL S l (p : Int) m k).getD q 0 = x := ⟨_, rfl⟩
      have hLlen : (chgL S l (p : Int) m k).length = m := chgL_len _ _ _ _ _
      obtain ⟨L, hL⟩ : ∃ L, chgL S l (p : Int) m k = L := ⟨_, rfl⟩
      rw [hL] at hx cx hRX hbq hbp2 hLlen
      simp only [hL] at hstep
      rw [hv] at cs hsv
      rw [hx] at cx hbq
      obtain ⟨y, hy⟩ : ∃ y, (L.set q (x + v)).getD p 0 = y := ⟨_, rfl⟩
      have hst := hstep x y v hx hv hy
      have hyb : -60000 ≤ y ∧ y ≤ 60000 := by
        rw [← hy, getD_set _ _ _ _ (by rw [hLlen]; exact hqm)]
        split <;> omega
      have wA : IntKind.i64.wrap (x + v) = x + v := IntWalk.i64_in _ (by omega)
      have wB : IntKind.i64.wrap (y - v) = y - v := IntWalk.i64_in _ (by omega)
      have Hst := Lib.hid hst
      have Hy := Lib.hid hy
      have HL := Lib.hid hLlen
      have HV := Lib.hid hv
      have y3 := hCX.cell 3
      have yl := hCX.lt
      simp at y3
      have lX := hRX.lt
      have fX := hRX.frozen q
      have lS := hRS.lt
      clear hst hy hLlen hstep hx hv hL hs
      go_wp2
      (refine wp_region_seq 14 [] [14] 55 [true, true, true, true, true, true, true, true, true, true, true, true, true, true] [] (by kernel_rfl) (by kernel_rfl) rfl mono_nil ?_; simp only [pickOps, List.filterMap_cons, List.filterMap_nil, List.getElem?_toArray, List.getElem?_cons_succ, List.getElem?_cons_zero]; (repeat (refine wpFl_step _ rfl (fun w => (by go_simp; rfl)) ?_)); refine wpFl_nil ?_; simp only [maskOps, dummy, Act.put, List.setIfInBounds_toArray, List.set_cons_zero, List.set_cons_succ, List.take_succ_cons, List.take_zero, List.drop_succ_cons, List.drop_zero]; (repeat (refine wpQB_step (fun K hK => ?_); go_simp; first | (refine hK _ ?_; clear hK K) | (apply Exists.intro; refine ⟨fun ex => ?_, hK _ ?_⟩; (fail); clear hK K))); refine wpQB_nil ?_; simp only [relObl2, under, relEnd, and_true, List.nil_append, List.cons_append])
      refine ⟨trivial, fun e => ?_⟩
      have b4 := e.below
      obtain ⟨W4, hW4⟩ : ∃ x : World, x = e.to := ⟨_, rfl⟩
      rw [← hW4] at b4 ⊢
      clear hW4 e
      have cx4 := below_cell b4 cx
      have fx4 := (hRX.below b4).frozen q
      have lx4 := Nat.lt_of_lt_of_le lX b4.size
      clear cx fX hcp cs y3 yl lS lX
      go_upto_region 8 with fail
      obtain ⟨W5, hW5⟩ : ∃ z : World, z = W4.setCell ⟨g, q, none⟩ (.int .i64 (x + v)) := ⟨_, rfl⟩
      have hR5 : RowI W5 g (L.set q (x + v)) := by rw [hW5]; exact (hRX.below b4).set q _
      have hS5 : RowI W5 gs S := by rw [hW5]; exact (hRS.below b4).other hgs2 _ _
      have C5 : Cells W5 (g + 1) #[.int .i64 (p : Int), .int .i64 lo, .int .i64 hi2, .slice (some ⟨bp, op, none⟩) l.length cl] 43 := by rw [hW5]; exact (hCX.below b4).other (by omega) _ _
      have b5 : Below w.heap.size w W5 := by rw [hW5]; exact (hbX.trans (b4.mono hbX.size)).setCell (p := ⟨g, q, none⟩) hgw _
      rw [← hW5]
      clear hW5 cx4 fx4 lx4 hRX hRS hCX
      have cy := hR5.cell (k := p) (by rw [List.length_set, HL.out]; exact hpm)
      rw [Hy.out] at cy
      have cs := hS5.cell (k := k) (by rw [HSl.out]; exact hlt)
      rw [HV.out] at cs
      have fy := hR5.frozen p
      have ly := hR5.lt
      have ls := hS5.lt
      have y0 := C5.cell 0
      have yl := C5.lt
      simp at y0
      (refine wp_region_seq 11 [] [11] 55 [true, true, true, true, true, true, true, true, true, true, true] [] (by kernel_rfl) (by kernel_rfl) rfl mono_nil ?_; simp only [pickOps, List.filterMap_cons, List.filterMap_nil, List.getElem?_toArray, List.getElem?_cons_succ, List.getElem?_cons_zero]; (repeat (refine wpFl_step _ rfl (fun w => (by go_simp; rfl)) ?_)); refine wpFl_nil ?_; simp only [maskOps, dummy, Act.put, List.setIfInBounds_toArray, List.set_cons_zero, List.set_cons_succ, List.take_succ_cons, List.take_zero, List.drop_succ_cons, List.drop_zero]; (repeat (refine wpQB_step (fun K hK => ?_); go_simp; first | (refine hK _ ?_; clear hK K) | (apply Exists.intro; refine ⟨fun ex => ?_, hK _ ?_⟩; (fail); clear hK K))); refine wpQB_nil ?_; simp only [relObl2, under, relEnd, and_true, List.nil_append, List.cons_append])
      refine ⟨trivial, fun e => ?_⟩
      have b6 := e.below
      obtain ⟨W6, hW6⟩ : ∃ x : World, x = e.to := ⟨_, rfl⟩
      rw [← hW6] at b6 ⊢
      clear hW6 e
      have cy6 := below_cell b6 cy
      have fy6 := (hR5.below b6).frozen p
      have ly6 := Nat.lt_of_lt_of_le ly b6.size
      have hR6 := (hR5.below b6).set p (y - v)
      rw [Hst.out] at hR6
      have hS6 := (hS5.below b6).other hgs2 p (.int .i64 (y - v))
      have C6 := (C5.below b6).other (show g + 1 ≠ g by omega) p (.int .i64 (y - v))
      have b7 := (b5.trans (b6.mono b5.size)).setCell (p := ⟨g, p, none⟩) hgw (.int .i64 (y - v))
      clear cy fy cs y0 yl ls ly
      go_wp2
      go_roundw
      case rel => exact ⟨k + 1, by omega, by go_num, hR6, hS6, C6, b7⟩
      case measure => simp [intOf]; omega
    · obtain rfl : k = l.length := by omega
      rw [← HF.out] at hRX
      go_wp2
      go_ret
      exact ⟨⟨g, m, rfl, hgw, hRX⟩, hbX⟩
end
end Go.Proofs.Ytomjlmhnjgohdaa
