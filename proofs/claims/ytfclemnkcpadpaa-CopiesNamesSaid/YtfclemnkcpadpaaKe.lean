/- copies: truths as plain data; shaped -/
import Derived.Test.YtfclemnkcpadpaaKd
namespace Go.Proofs.Ytfclemnkcpadpaa
set_option linter.unusedVariables false
set_option linter.unusedSimpArgs false
set_option linter.unnecessarySimpa false
open Go.RowKit Go.Flow

/-- Lists of lists of ints; lists of those. -/
def ListsAt (w : World) (a : Option Addr) (xss : List (List Int)) : Prop :=
  ∀ k (h : k < xss.length), ∃ b off a2 c, a = some ⟨b, off, none⟩ ∧ b < w.heap.size ∧ w.cell? ⟨b, off + k, none⟩ = some (.slice a2 xss[k].length c) ∧ IntsAt w a2 xss[k] ∧ (a2 = none → c = 0)
theorem ListsAt.below {w w' : World} {a : Option Addr} {xs : List (List Int)} (h : ListsAt w a xs) (hb : Below w.heap.size w w') : ListsAt w' a xs := fun k hk =>
  let ⟨b, off, a2, c, ha, hlt, h0, h1, h2⟩ := h k hk
  ⟨b, off, a2, c, ha, Nat.lt_of_lt_of_le hlt hb.size, (hb.cell (p := ⟨b, _, none⟩) hlt).trans h0, h1.below hb, h2⟩
theorem ListsAt.nil (w : World) (a : Option Addr) : ListsAt w a [] := fun k hk => absurd hk (Nat.not_lt_zero k)
def TruthAt (w : World) (a : Option Addr) (t : List (List (List Int))) : Prop :=
  ∀ k (h : k < t.length), ∃ b off a2 c, a = some ⟨b, off, none⟩ ∧ b < w.heap.size ∧ w.cell? ⟨b, off + k, none⟩ = some (.slice a2 t[k].length c) ∧ ListsAt w a2 t[k] ∧ (a2 = none → c = 0)
theorem TruthAt.below {w w' : World} {a : Option Addr} {xs : List (List (List Int))} (h : TruthAt w a xs) (hb : Below w.heap.size w w') : TruthAt w' a xs := fun k hk =>
  let ⟨b, off, a2, c, ha, hlt, h0, h1, h2⟩ := h k hk
  ⟨b, off, a2, c, ha, Nat.lt_of_lt_of_le hlt hb.size, (hb.cell (p := ⟨b, _, none⟩) hlt).trans h0, h1.below hb, h2⟩
theorem TruthAt.nil (w : World) (a : Option Addr) : TruthAt w a [] := fun k hk => absurd hk (Nat.not_lt_zero k)

/-- A row of a truth: has it a wrong length; are its numbers in range. -/
def rowBad (r : Route) (ts : List Int) : Bool := !(r.lossy && decide (ts.length = 0)) && decide (ts.length ≠ r.legs.length)
def inB : List Int → List Leg → Bool
  | t :: ts, l :: ls => inR t (l.lo, l.hi) && inB ts ls
  | _, _ => true
def midE (right : Bool) : List (List Int) → List Route → (Bool → Int) → Int
  | ts :: l, r :: rs, f => if rowBad r ts then 2 else midE (right && inB ts r.legs) l rs f
  | _, _, f => f right
def outE (rs : List Route) (right : Bool) : List (List (List Int)) → Int
  | l :: t => if l.length ≠ rs.length then 2 else midE right l rs (fun r => outE rs r t)
  | [] => if right then 0 else 11
def shapeErr (p : Post) (t : List (List (List Int))) : Int := if t.length ≠ p.sends.length then 2 else outE p.routes true t

theorem inB_step {ts : List Int} {ls : List Leg} {k : Nat} (h1 : k < ts.length) (h2 : k < ls.length) : inB (ts.drop k) (ls.drop k) = (inR ts[k] (ls[k].lo, ls[k].hi) && inB (ts.drop (k + 1)) (ls.drop (k + 1))) := by
  rw [List.drop_eq_getElem_cons h1, List.drop_eq_getElem_cons h2]; rfl
theorem midE_step {right : Bool} {l : List (List Int)} {rs : List Route} {f : Bool → Int} {k : Nat} (h1 : k < l.length) (h2 : k < rs.length) : midE right (l.drop k) (rs.drop k) f = if rowBad rs[k] l[k] then 2 else midE (right && inB l[k] rs[k].legs) (l.drop (k + 1)) (rs.drop (k + 1)) f := by
  rw [List.drop_eq_getElem_cons h1, List.drop_eq_getElem_cons h2]; rfl
theorem outE_step {rs : List Route} {right : Bool} {t : List (List (List Int))} {k : Nat} (h1 : k < t.length) : outE rs right (t.drop k) = if t[k].length ≠ rs.length then 2 else midE right t[k] rs (fun r => outE rs r (t.drop (k + 1))) := by
  rw [List.drop_eq_getElem_cons h1]; rfl
theorem below_c {w w' : World} {b o : Nat} {v : Value} (hb : Below w.heap.size w w') (hl : b < w.heap.size) (h : w.cell? ⟨b, o, none⟩ = some v) : w'.cell? ⟨b, o, none⟩ = some v := (hb.cell (p := ⟨b, o, none⟩) hl).trans h

theorem cne {a b : Nat} (h : a ≠ b) : ((a : Int) != (b : Int)) = true := by simp; omega
theorem ceq {a b : Nat} (h : ¬ a ≠ b) : ((a : Int) != (b : Int)) = false := by simp; omega
theorem inB_nil (ls : List Leg) : inB [] ls = true := by cases ls <;> rfl
set_option maxRecDepth 100000 in
set_option maxHeartbeats 4000000 in
theorem shaped_any (a : Option Addr) (c : Nat) (ar : Option Addr) (cr : Nat) (p : Post) (at_ : Option Addr) (ct : Nat) (t : List (List (List Int))) (w : World) (hr : RoutesAt w ar p.routes) (ht : TruthAt w at_ t) (ls : p.sends.length ≤ 1000) (lr : p.routes.length ≤ 1000) (ll : ∀ r ∈ p.routes, r.legs.length ≤ 1000) (lt : t.length ≤ 1000) (lt1 : ∀ l ∈ t, l.length ≤ 1000) (lt2 : ∀ l ∈ t, ∀ ts ∈ l, ts.length ≤ 1000) :
    Calls Try.prog 64 #[.agg #[.slice a p.sends.length c, .slice ar p.routes.length cr, .int .i64 p.pat], .slice at_ t.length ct] w fun e w' => e = .returned (.int .i64 (shapeErr p t)) ∧ Below w.heap.size w w' := by
  by_cases hl : t.length ≠ p.sends.length
  · have hl1 : ((t.length : Int) != (p.sends.length : Int)) = true := cne hl
    have Hl := Lib.hid hl
    clear hl
    go_enter Try.func64, Try.ntmps64
    go_wp2
    go_ret
    exact ⟨ret_n (by unfold shapeErr; rw [if_pos Hl.out]), by (repeat (first | exact Below.refl _ _ | refine Below.alloc ?_ (by first | omega | (simp; done) | (simp; omega)) _ | refine Below.drew ?_ | refine Below.setCell ?_ (by first | omega | (simp; done) | (simp; omega)) _ | refine Below.trans ?_ (Below.mono (by assumption) (by first | omega | (simp; done) | (simp; omega)))))⟩
  have hl1 : ((t.length : Int) != (p.sends.length : Int)) = false := ceq hl
  have Hl : Hid (shapeErr p t = outE p.routes true (t.drop 0)) := Lib.hid (by unfold shapeErr; rw [if_neg hl]; rfl)
  clear hl
  have lr' : (p.routes.length : Int) ≤ 1000 := by omega
  have wb : ∀ o, Below w.heap.size w (w.alloc o) := fun o => (Below.refl _ _).alloc (Nat.le_refl _) _
  have P1 : (w.alloc (.cells #[.slice a p.sends.length c, .slice ar p.routes.length cr, .int .i64 p.pat] 34)).cell? ⟨w.heap.size, 1, none⟩ = some (.slice ar p.routes.length cr) := by rw [World.cell?_alloc_at _ _ _ _ rfl]; rfl
  go_enter Try.func64, Try.ntmps64
  go_wp2
  go_loopw [5, 21] (fun q i wr => ∃ (k : Nat) (right : Bool), k ≤ t.length ∧ i = .int .i64 k ∧ q = .bool right ∧ outE p.routes true (t.drop 0) = outE p.routes right (t.drop k) ∧ Below w.heap.size w wr ∧ wr.cell? ⟨w.heap.size, 1, none⟩ = some (.slice ar p.routes.length cr)) (fun _ i _ => t.length - (intOf i).toNat)
  case atStart => exact ⟨0, true, Nat.zero_le _, rfl, rfl, rfl, wb _, P1⟩
  case round =>
    obtain ⟨k, right, hk, rfl, rfl, ho, hb, cP⟩ := hrel
    have lP := cell_ltK cP
    have Ho := Lib.hid ho
    clear ho P1 wb
    by_cases hkl : k < t.length
    · obtain ⟨b, off, a2, c2, rfl, hbl, c0, hL, _⟩ := ht k hkl
      have c0' := below_c hb hbl c0
      have hLr := hL.below hb
      have Hs := Lib.hid (outE_step (rs := p.routes) (right := right) hkl)
      have lk := lt1 t[k] (List.getElem_mem hkl)
      have lk2 := lt2 t[k] (List.getElem_mem hkl)
      clear c0 hL
      obtain ⟨l, hle⟩ : ∃ l, t[k] = l := ⟨_, rfl⟩
      rw [hle] at c0' hLr Hs lk lk2
      clear hle
      by_cases hll : l.length ≠ p.routes.length
      · have h1 : ((l.length : Int) != (p.routes.length : Int)) = true := cne hll
        have Hll := Lib.hid hll
        clear hll
        go_wp2
        go_ret
        exact ⟨ret_n (by rw [Hl.out, Ho.out, Hs.out, if_pos Hll.out]), hb⟩
      have h1 : ((l.length : Int) != (p.routes.length : Int)) = false := ceq hll
      have Hll := Lib.hid (show outE p.routes right (t.drop k) = midE right (l.drop 0) (p.routes.drop 0) (fun r => outE p.routes r (t.drop (k + 1))) by rw [Hs.out, if_neg hll]; rfl)
      have hll2 : l.length ≤ p.routes.length ∧ p.routes.length ≤ l.length := by omega
      clear hll Hs
      go_wp2
      obtain ⟨wo, hwo⟩ : ∃ z : World, z = wr := ⟨_, rfl⟩
      subst hwo
      go_loopw [5, 33] (fun q i wr => ∃ (j : Nat) (rg : Bool), j ≤ l.length ∧ i = .int .i64 j ∧ q = .bool rg ∧ midE right (l.drop 0) (p.routes.drop 0) (fun r => outE p.routes r (t.drop (k + 1))) = midE rg (l.drop j) (p.routes.drop j) (fun r => outE p.routes r (t.drop (k + 1))) ∧ Below wo.heap.size wo wr) (fun _ i _ => l.length - (intOf i).toNat)
      case atStart => exact ⟨0, right, Nat.zero_le _, rfl, rfl, rfl, Below.refl _ _⟩
      case round =>
        obtain ⟨j, rg, hj, rfl, rfl, hm, hb2⟩ := hrel
        have Hm := Lib.hid hm
        clear hm
        have cP2 := below_c hb2 lP cP
        have lP2 := cell_ltK cP2
        by_cases hjl : j < l.length
        · obtain ⟨b3, off3, a3, c3, rfl, hbl3, d0, dI, dn⟩ := (hLr.below hb2) j hjl
          obtain ⟨b4, off4, al, ca, rfl, hbl4, e0, e1, eL⟩ := ((hr.below hb).below hb2) j (by omega)
          have Hs := Lib.hid (midE_step (right := rg) (l := l) (rs := p.routes) (f := fun r => outE p.routes r (t.drop (k + 1))) hjl (by omega : j < p.routes.length))
          have lts := lk2 l[j] (List.getElem_mem hjl)
          have llj := ll p.routes[j] (List.getElem_mem (by omega))
          have hjr : j < p.routes.length := by omega
          obtain ⟨ts, hts⟩ : ∃ x, l[j] = x := ⟨_, rfl⟩
          obtain ⟨r, hrr⟩ : ∃ x, p.routes[j] = x := ⟨_, rfl⟩
          rw [hts] at d0 dI Hs lts
          rw [hrr] at e0 e1 eL Hs llj
          clear hts hrr
          obtain ⟨lo, hlo⟩ : ∃ x, r.lossy = x := ⟨_, rfl⟩
          rw [hlo] at e1
          have Hlo := Lib.hid hlo
          clear hlo
          by_cases hA : lo = true ∧ ts.length = 0
          · obtain ⟨rfl, h0⟩ := hA
            have hbad : rowBad r ts = false := by unfold rowBad; rw [Hlo.out, h0]; rfl
            have hin : inB ts r.legs = true := by rw [List.eq_nil_of_length_eq_zero h0]; exact inB_nil _
            have Hs2 := Lib.hid (show midE rg (l.drop j) (p.routes.drop j) (fun r => outE p.routes r (t.drop (k + 1))) = midE rg (l.drop (j + 1)) (p.routes.drop (j + 1)) (fun r => outE p.routes r (t.drop (k + 1))) by rw [Hs.out, hbad, hin, Bool.and_true]; rfl)
            have h0' : ((ts.length : Int) == 0) = true := by rw [h0]; rfl
            clear hbad hin h0
            go_wp2
            go_roundw
            case rel => exact ⟨j + 1, rg, by omega, by go_num, rfl, by rw [Hm.out, Hs2.out], hb2.trans ((Below.refl _ _).alloc (Nat.le_refl _) _ |>.mono hb2.size)⟩
            case measure => simp [intOf]; omega
          by_cases hB : ts.length ≠ r.legs.length
          · have hbad : rowBad r ts = true := by
              unfold rowBad
              rw [Hlo.out]
              cases lo
              · simp [hB]
              · simp at hA; simp [hB, hA]
            have h0' : lo = true → ((ts.length : Int) == 0) = false := fun h => by simp at hA ⊢; exact fun e => hA h e
            have h1 : ((ts.length : Int) != (r.legs.length : Int)) = true := cne hB
            have Hs2 := Lib.hid (show midE rg (l.drop j) (p.routes.drop j) (fun r => outE p.routes r (t.drop (k + 1))) = 2 by rw [Hs.out, hbad]; rfl)
            clear hbad hA hB
            cases lo
            · clear h0'
              go_wp2
              go_ret
              exact ⟨ret_n (by rw [Hl.out, Ho.out, Hll.out, Hm.out, Hs2.out]), hb.trans (hb2.mono hb.size |>.trans ((Below.refl _ _).alloc (Nat.le_trans hb.size hb2.size) _))⟩
            · have h0 := h0' rfl
              clear h0'
              go_wp2
              go_ret
              exact ⟨ret_n (by rw [Hl.out, Ho.out, Hll.out, Hm.out, Hs2.out]), hb.trans (hb2.mono hb.size |>.trans ((Below.refl _ _).alloc (Nat.le_trans hb.size hb2.size) _))⟩
          have hbad : rowBad r ts = false := by
            unfold rowBad
            simp at hB
            simp [hB]
          have h0' : lo = true → ((ts.length : Int) == 0) = false := fun h => by simp at hA ⊢; exact fun e => hA h e
          have h1 : ((ts.length : Int) != (r.legs.length : Int)) = false := ceq hB
          have hlen : ts.length ≤ r.legs.length ∧ r.legs.length ≤ ts.length := by omega
          have Hs2 := Lib.hid (show midE rg (l.drop j) (p.routes.drop j) (fun r => outE p.routes r (t.drop (k + 1))) = midE (rg && inB (ts.drop 0) (r.legs.drop 0)) (l.drop (j + 1)) (p.routes.drop (j + 1)) (fun r => outE p.routes r (t.drop (k + 1))) by rw [Hs.out, hbad]; rfl)
          clear hbad hA hB
          have hlo2 : lo = false ∨ lo = true := by cases lo <;> simp
          rcases hlo2 with rfl | rfl
          · clear h0'
            go_wp2
            obtain ⟨w3, hw3⟩ : ∃ z : World, z = wr.alloc (.cells #[.slice al r.legs.length ca, .bool false] 108) := ⟨_, rfl⟩
            have q0 : w3.cell? ⟨wr.heap.size, 0, none⟩ = some (.slice al r.legs.length ca) := by rw [hw3, World.cell?_alloc_at _ _ _ _ rfl]; rfl
            have b3 : Below wr.heap.size wr w3 := by rw [hw3]; exact (Below.refl _ _).alloc (Nat.le_refl _) _
            rw [← hw3]
            clear hw3
            obtain ⟨w2, hw2⟩ : ∃ z : World, z = wr := ⟨_, rfl⟩
            subst hw2
            go_loopw [5, 58] (fun q i wr => ∃ (m : Nat) (rq : Bool), m ≤ ts.length ∧ i = .int .i64 m ∧ q = .bool rq ∧ (rg && inB (ts.drop 0) (r.legs.drop 0)) = (rq && inB (ts.drop m) (r.legs.drop m)) ∧ Below w3.heap.size w3 wr) (fun _ i _ => ts.length - (intOf i).toNat)
            case atStart => exact ⟨0, rg, Nat.zero_le _, rfl, rfl, rfl, Below.refl _ _⟩
            case round =>
              obtain ⟨m, rq, hm, rfl, rfl, hi, hb3⟩ := hrel
              have Hi := Lib.hid hi
              clear hi
              have lq := cell_ltK q0
              have q1 := below_c hb3 lq q0
              have lq1 := cell_ltK q1
              by_cases hml : m < ts.length
              · obtain ⟨b5, off5, rfl, hbl5, g0⟩ := ((dI.below b3).below hb3) m hml
                obtain ⟨b6, off6, ar6, c6, rfl, hbl6, k0, k1, _, _⟩ := ((eL.below b3).below hb3) m (by omega)
                have Hst := Lib.hid (inB_step (ts := ts) (ls := r.legs) hml (by omega : m < r.legs.length))
                have hmr : m < r.legs.length := by omega
                have g0' : wr.cell? ⟨b5, off5 + m, none⟩ = some (.int .i64 ts[m]) := g0.trans (by simp [hml])
                clear g0
                obtain ⟨x, hx⟩ : ∃ x, ts[m] = x := ⟨_, rfl⟩
                obtain ⟨lg, hlg⟩ : ∃ x, r.legs[m] = x := ⟨_, rfl⟩
                rw [hx] at g0' Hst
                rw [hlg] at k0 k1 Hst
                clear hx hlg
                cases rq
                · go_wp2
                  go_roundw
                  case rel => exact ⟨m + 1, false, by omega, by go_num, rfl, by rw [Hi.out, Bool.false_and, Bool.false_and], hb3⟩
                  case measure => simp [intOf]; omega
                · go_wp2_with (go_at_call 56; refine (has_any _ _ _ _).mono ?_; rintro e w1 ⟨rfl, hb1⟩; obtain ⟨hc1, hf1, hz1⟩ := bcell hb1; (try simp at hz1); (try (have hy0 : w.heap.size < w1.heap.size := by omega)); (try (have hy1 : w.heap.size + 1 < w1.heap.size := by omega)); (try (have hy2 : w.heap.size + 2 < w1.heap.size := by omega)))
                  go_roundw
                  case rel => exact ⟨m + 1, inR x (lg.lo, lg.hi), by omega, by go_num, rfl, by rw [Hi.out, Hst.out, Bool.true_and], hb3.trans (hb1.mono hb3.size)⟩
                  case measure => simp [intOf]; omega
              · obtain rfl : m = ts.length := by omega
                have hi2 := Hi.out
                rw [List.drop_eq_nil_of_le (Nat.le_refl _), inB_nil, Bool.and_true] at hi2
                have Hi2 := Lib.hid hi2
                clear hi2
                have hbb : Below wo.heap.size wo wr := hb2.trans ((b3.trans (hb3.mono b3.size)).mono hb2.size)
                go_wp2
                go_roundw
                case rel => exact ⟨j + 1, rq, by omega, by go_num, rfl, by rw [Hm.out, Hs2.out, Hi2.out], hbb⟩
                case measure => simp [intOf]; omega
          · have h0 := h0' rfl
            clear h0'
            go_wp2
            obtain ⟨w3, hw3⟩ : ∃ z : World, z = wr.alloc (.cells #[.slice al r.legs.length ca, .bool true] 108) := ⟨_, rfl⟩
            have q0 : w3.cell? ⟨wr.heap.size, 0, none⟩ = some (.slice al r.legs.length ca) := by rw [hw3, World.cell?_alloc_at _ _ _ _ rfl]; rfl
            have b3 : Below wr.heap.size wr w3 := by rw [hw3]; exact (Below.refl _ _).alloc (Nat.le_refl _) _
            rw [← hw3]
            clear hw3
            obtain ⟨w2, hw2⟩ : ∃ z : World, z = wr := ⟨_, rfl⟩
            subst hw2
            go_loopw [5, 58] (fun q i wr => ∃ (m : Nat) (rq : Bool), m ≤ ts.length ∧ i = .int .i64 m ∧ q = .bool rq ∧ (rg && inB (ts.drop 0) (r.legs.drop 0)) = (rq && inB (ts.drop m) (r.legs.drop m)) ∧ Below w3.heap.size w3 wr) (fun _ i _ => ts.length - (intOf i).toNat)
            case atStart => exact ⟨0, rg, Nat.zero_le _, rfl, rfl, rfl, Below.refl _ _⟩
            case round =>
              obtain ⟨m, rq, hm, rfl, rfl, hi, hb3⟩ := hrel
              have Hi := Lib.hid hi
              clear hi
              have lq := cell_ltK q0
              have q1 := below_c hb3 lq q0
              have lq1 := cell_ltK q1
              by_cases hml : m < ts.length
              · obtain ⟨b5, off5, rfl, hbl5, g0⟩ := ((dI.below b3).below hb3) m hml
                obtain ⟨b6, off6, ar6, c6, rfl, hbl6, k0, k1, _, _⟩ := ((eL.below b3).below hb3) m (by omega)
                have Hst := Lib.hid (inB_step (ts := ts) (ls := r.legs) hml (by omega : m < r.legs.length))
                have hmr : m < r.legs.length := by omega
                have g0' : wr.cell? ⟨b5, off5 + m, none⟩ = some (.int .i64 ts[m]) := g0.trans (by simp [hml])
                clear g0
                obtain ⟨x, hx⟩ : ∃ x, ts[m] = x := ⟨_, rfl⟩
                obtain ⟨lg, hlg⟩ : ∃ x, r.legs[m] = x := ⟨_, rfl⟩
                rw [hx] at g0' Hst
                rw [hlg] at k0 k1 Hst
                clear hx hlg
                cases rq
                · go_wp2
                  go_roundw
                  case rel => exact ⟨m + 1, false, by omega, by go_num, rfl, by rw [Hi.out, Bool.false_and, Bool.false_and], hb3⟩
                  case measure => simp [intOf]; omega
                · go_wp2_with (go_at_call 56; refine (has_any _ _ _ _).mono ?_; rintro e w1 ⟨rfl, hb1⟩; obtain ⟨hc1, hf1, hz1⟩ := bcell hb1; (try simp at hz1); (try (have hy0 : w.heap.size < w1.heap.size := by omega)); (try (have hy1 : w.heap.size + 1 < w1.heap.size := by omega)); (try (have hy2 : w.heap.size + 2 < w1.heap.size := by omega)))
                  go_roundw
                  case rel => exact ⟨m + 1, inR x (lg.lo, lg.hi), by omega, by go_num, rfl, by rw [Hi.out, Hst.out, Bool.true_and], hb3.trans (hb1.mono hb3.size)⟩
                  case measure => simp [intOf]; omega
              · obtain rfl : m = ts.length := by omega
                have hi2 := Hi.out
                rw [List.drop_eq_nil_of_le (Nat.le_refl _), inB_nil, Bool.and_true] at hi2
                have Hi2 := Lib.hid hi2
                clear hi2
                have hbb : Below wo.heap.size wo wr := hb2.trans ((b3.trans (hb3.mono b3.size)).mono hb2.size)
                go_wp2
                go_roundw
                case rel => exact ⟨j + 1, rq, by omega, by go_num, rfl, by rw [Hm.out, Hs2.out, Hi2.out], hbb⟩
                case measure => simp [intOf]; omega
        · obtain rfl : j = l.length := by omega
          have hm2 := Hm.out
          rw [List.drop_eq_nil_of_le (Nat.le_refl _)] at hm2
          have Hm2 := Lib.hid (show midE right (l.drop 0) (p.routes.drop 0) (fun r => outE p.routes r (t.drop (k + 1))) = outE p.routes rg (t.drop (k + 1)) from hm2)
          clear hm2
          go_wp2
          go_roundw
          case rel => exact ⟨k + 1, rg, by omega, by go_num, rfl, by rw [Ho.out, Hll.out, Hm2.out], hb.trans (hb2.mono hb.size), cP2⟩
          case measure => simp [intOf]; omega
    · obtain rfl : k = t.length := by omega
      cases right
      all_goals
        go_wp2
        go_ret
        exact ⟨ret_n (by rw [Hl.out, Ho.out, List.drop_eq_nil_of_le (Nat.le_refl _)]; rfl), hb⟩
end Go.Proofs.Ytfclemnkcpadpaa
