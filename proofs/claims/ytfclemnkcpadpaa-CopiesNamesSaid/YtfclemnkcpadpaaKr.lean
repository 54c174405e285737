/- copies: Least -/
import Derived.Test.YtfclemnkcpadpaaKq
namespace Go.Proofs.Ytfclemnkcpadpaa
set_option linter.unusedVariables false
set_option linter.unusedSimpArgs false
set_option linter.unnecessarySimpa false
open Go.RowKit Go.Flow Go.Shelf

theorem HoursAt.setCell {w : World} {bm n : Nat} {F : Nat → Nat → Hrs} {dom : Nat → Nat → Prop} (h : HoursAt w bm n F dom) {Bw : Nat} {cs : Array Value} {T : TypeId} (hc : Cells w Bw cs T) (hb0 : ∀ b, cs[0]? ≠ some (.bool b)) (k : Nat) (v : Value) : HoursAt (w.setCell ⟨Bw, k, none⟩ v) bm n F dom := by
  obtain ⟨D, ⟨es, clock, hb, Ft, hs, hD⟩, hG⟩ := h
  have hne : bm ≠ Bw := fun e => by
    subst e
    have := (show w.heap[bm]? = _ from hc).symm.trans hb
    simp at this
  refine ⟨D, ⟨es, clock, (Below.heap_setCell w ⟨Bw, k, none⟩ v bm hne).trans hb, Ft, hs, hD⟩, fun i k' hd kl hkl => ?_⟩
  obtain ⟨Sb, h1, h2⟩ := hG i k' hd kl hkl
  have hS : Sb ≠ Bw := fun e => by
    subst e
    have := h2 0 (by omega)
    rw [hc.cell] at this
    exact hb0 _ this
  exact ⟨Sb, h1, fun m hm => ck_set hS (h2 m hm)⟩
theorem WorkAt.setPat {p : Post} {a : Option Addr} {c : Nat} {ar : Option Addr} {cr Bw : Nat} {w : World} (h : WorkAt p a c ar cr Bw w) (x : Int) : WorkAt { p with pat := x } a c ar cr Bw (w.setCell ⟨Bw, 2, none⟩ (.int .i64 x)) := by
  obtain ⟨Bm, n, h1, h2⟩ := h
  exact ⟨Bm, n, h1.set 2 _, h2.setCell h1 (fun b => by simp) 2 _⟩
theorem WorkAt.lt {p : Post} {a : Option Addr} {c : Nat} {ar : Option Addr} {cr Bw : Nat} {w : World} (h : WorkAt p a c ar cr Bw w) : Bw < w.heap.size := by
  obtain ⟨Bm, n, h1, h2⟩ := h
  exact h1.lt

def withPat (p : Post) (x : Int) : Post := { p with pat := x }
def allSure (p : Post) (x : Nat) : Bool := (List.range p.sends.length).all fun i => sureB (withPat p x) i
def leastF (p : Post) : Option Nat := (List.range 31).find? (allSure p)
def leastErr (p : Post) : Int := if postErr p ≠ 0 then postErr p else if (leastF p).isSome then 0 else 9
def leastOut (p : Post) : Int := if postErr p ≠ 0 then 0 else ((leastF p).getD 0 : Nat)
theorem find_first {p : Nat → Bool} {n j : Nat} (hj : j < n) (hno : ∀ k, k < j → p k = false) (hp : p j = true) : (List.range n).find? p = some j := by
  rw [List.find?_range_eq_some]
  exact ⟨hp, by simpa using hj, fun k hk => by simpa using hno k hk⟩
theorem find_none {p : Nat → Bool} {n : Nat} (hno : ∀ k, k < n → p k = false) : (List.range n).find? p = none := by
  rw [List.find?_eq_none]
  intro x hx
  simpa using hno x (by simpa using hx)
theorem below_succ' {P : Nat → Prop} {k : Nat} (h : ∀ j, j < k → P j) (hk : P k) : ∀ j, j < k + 1 → P j := fun j hj => by
  by_cases e : j = k
  · subst e; exact hk
  · exact h j (by omega)
theorem sureB_pat (p : Post) (x : Int) (i : Nat) : sureB (withPat p x) i = decide (latestF p i ≤ p.sends.getD i 0 + x) := rfl
theorem allSure_bad {p : Post} {k i : Nat} (hi : i < p.sends.length) (h : p.sends.getD i 0 + (k : Int) < latestF p i) : allSure p k = false := by
  unfold allSure
  rw [List.all_eq_false]
  refine ⟨i, by simpa using hi, ?_⟩
  rw [sureB_pat, show decide (latestF p i ≤ p.sends.getD i 0 + (k : Int)) = false by rw [decide_eq_false_iff_not]; omega]; simp
theorem all_range_succ {f : Nat → Bool} {k : Nat} (h : (List.range k).all f = true) (hk : f k = true) : (List.range (k + 1)).all f = true := by
  rw [List.range_succ, List.all_append, h]; simp [hk]
theorem leastF_bad {p : Post} (h : ∀ j, j < 31 → allSure p j = false) : leastF p = none := find_none h
theorem leastF_ok {p : Post} {k : Nat} (hk : k < 31) (h : ∀ j, j < k → allSure p j = false) (h2 : allSure p k = true) : leastF p = some k := find_first hk h h2

set_option maxRecDepth 100000 in
set_option maxHeartbeats 4000000 in
theorem Least_any (a : Option Addr) (c : Nat) (ar : Option Addr) (cr : Nat) (p : Post) (w : World) (hs : IntsAt w a p.sends) (hr : RoutesAt w ar p.routes) (sm : PostSmall p) :
    Calls Try.prog 34 #[.agg #[.slice a p.sends.length c, .slice ar p.routes.length cr, .int .i64 p.pat]] w fun e w' => e = .returned (.tuple #[.int .i64 (leastOut p), .int .i64 (leastErr p)]) ∧ Below w.heap.size w w' := by
  have chk := fun W (b : Below w.heap.size w W) => checkPost_any a c ar cr p W (hs.below b) (hr.below b) sm
  have bd := postErr_bd p
  have C0 : Cells (w.alloc (.cells #[.slice a p.sends.length c, .slice ar p.routes.length cr, .int .i64 p.pat] 34)) w.heap.size #[.slice a p.sends.length c, .slice ar p.routes.length cr, .int .i64 p.pat] 34 := Cells.new _ _ _
  have t0 : Below w.heap.size w (w.alloc (.cells #[.slice a p.sends.length c, .slice ar p.routes.length cr, .int .i64 p.pat] 34)) := (Below.refl _ _).alloc (Nat.le_refl _) _
  by_cases h0 : postErr p = 0
  · have Hout : Hid (leastOut p = ((leastF p).getD 0 : Nat)) := Lib.hid (by unfold leastOut; rw [if_neg (by simpa using h0)])
    have Herr : Hid (leastErr p = if (leastF p).isSome then 0 else 9) := Lib.hid (by unfold leastErr; rw [if_neg (by simpa using h0)])
    rw [h0] at chk
    obtain ⟨oo, hoo⟩ : ∃ x, leastOut p = x := ⟨_, rfl⟩
    obtain ⟨ee, hee⟩ : ∃ x, leastErr p = x := ⟨_, rfl⟩
    rw [hoo, hee]
    rw [hoo] at Hout
    rw [hee] at Herr
    have wrk := fun W (b : Below w.heap.size w W) => work_any a c ar cr p W (hs.below b) (hr.below b) h0
    obtain ⟨n4, r3, _⟩ := postErr_ok h0
    have hhs := post_hours h0
    have Hne := Lib.hid (fun (i : Nat) (hi : i < p.sends.length) => post_ne h0 hi)
    clear h0 bd hoo hee
    go_enter Try.func34, Try.ntmps34
    go_wp2
    go_step3
    go_wp2_with fail
    go_at_call 20
    with_reducible refine (chk _ t0).mono ?_
    rintro e w1 ⟨rfl, hb1⟩
    have C1 := C0.below hb1
    have t1 : Below w.heap.size w w1 := t0.trans (hb1.mono t0.size)
    have k0 := C1.cell 0
    have k1 := C1.cell 1
    have k2 := C1.cell 2
    have lC := C1.lt
    simp at k0 k1 k2
    go_wp2_with fail
    go_at_call 70
    with_reducible refine (wrk _ t1).mono ?_
    rintro e w2 ⟨Bw, rfl, hBw, hW, hb2⟩
    have C2 := C1.below hb2
    have t2 : Below w.heap.size w w2 := t1.trans (hb2.mono t1.size)
    clear k0 k1 k2 C1 hb2 C0 chk wrk
    go_wp2
    go_step3
    go_wp2
    go_loopg [15] 31 (fun g o wr => ∃ (k : Nat) (x : Int), k + g = 31 ∧ o = .int .i64 k ∧ (∀ j, j < k → allSure p j = false) ∧ Below w.heap.size w wr ∧ Cells wr w.heap.size #[.slice a p.sends.length c, .slice ar p.routes.length cr, .int .i64 p.pat] 34 ∧ WorkAt (withPat p x) a c ar cr Bw wr)
    case atStart => exact ⟨0, p.pat, by omega, rfl, fun j hj => absurd hj (Nat.not_lt_zero j), t2, C2, hW⟩
    case round =>
      obtain ⟨k, x, hk, rfl, hno, hb, cP, hWr⟩ := hrel
      have Hno := Lib.hid hno
      clear hno t2 C2 hW
      cases gk with
      | succ gq =>
        have hkl : k < 31 := by omega
        obtain ⟨W5, hW5⟩ : ∃ z : World, z = wr.setCell ⟨Bw, 2, none⟩ (.int .i64 (k : Int)) := ⟨_, rfl⟩
        have hW5w : WorkAt (withPat p k) a c ar cr Bw W5 := by rw [hW5]; exact hWr.setPat k
        have hne : Bw ≠ w.heap.size := by omega
        have cP5 : Cells W5 w.heap.size #[.slice a p.sends.length c, .slice ar p.routes.length cr, .int .i64 p.pat] 34 := by rw [hW5]; exact cP.other (Ne.symm hne) 2 _
        have b5 : Below w.heap.size w W5 := by rw [hW5]; exact hb.setCell (p := ⟨Bw, 2, none⟩) (by simp only; omega) _
        have lW := hWr.lt
        have z5 : W5.heap.size = wr.heap.size := by rw [hW5]; simp
        have q2 : wr.cell? ⟨Bw, 2, none⟩ = some (.int .i64 x) := by obtain ⟨Bm, nm, cW, _⟩ := hWr; have := cW.cell 2; simpa [withPat] using this
        have f2 : wr.frozen? ⟨Bw, 2, none⟩ = false := by obtain ⟨Bm, nm, cW, _⟩ := hWr; exact cW.frozen 2
        have y0 : W5.cell? ⟨w.heap.size, 0, none⟩ = some (.slice a p.sends.length c) := by have := cP5.cell 0; simpa using this
        have lP := cP5.lt
        rw [hW5] at y0
        have hkI : (k : Int) < 31 := by omega
        go_wp2
        rw [← hW5]
        clear q2 f2 y0 hWr hW5 cP
        obtain ⟨wo, hwo⟩ : ∃ z : World, z = wr := ⟨_, rfl⟩
        subst hwo
        go_loopg [26] p.sends.length (fun gg o wr => ∃ i : Nat, i + gg = p.sends.length ∧ o = .int .i64 i ∧ (List.range i).all (sureB (withPat p k)) = true ∧ Below W5.heap.size W5 wr)
        case atStart => exact ⟨0, by omega, rfl, rfl, Below.refl _ _⟩
        case round =>
          obtain ⟨i, hi, rfl, hall, hb6⟩ := hrel
          have Hall := Lib.hid hall
          clear hall
          cases gk with
          | succ gi =>
            have hil : i < p.sends.length := by omega
            have hWq := hW5w.below hb6
            have tr := b5.trans (hb6.mono b5.size)
            have hWq2 := hWq
            obtain ⟨Bm, nm, cWr, _⟩ := hWq2
            have p0 := cWr.cell 0
            have p1 := cWr.cell 1
            have p2 := cWr.cell 2
            have lWq := cWr.lt
            simp [withPat] at p0 p1 p2
            have hL : ∀ W, Below wr.heap.size wr W → Calls Try.prog 74 #[.pointer (some ⟨Bw, 0, none⟩), .int .i64 i] W fun e w' => e = .returned (.int .i64 (latestF p i)) ∧ Below W.heap.size W w' := fun W b => latest_any a c ar cr (withPat p k) Bw i W (hWq.below b) (hr.below (tr.trans (b.mono tr.size))) r3 hil n4 (Hne.out i hil)
            have hD : ∀ W, Below wr.heap.size wr W → Calls Try.prog 76 #[.agg #[.slice a p.sends.length c, .slice ar p.routes.length cr, .int .i64 (k : Int)], .int .i64 i] W fun e w' => e = .returned (.int .i64 (p.sends[i] + (k : Int))) ∧ Below W.heap.size W w' := fun W b => deadline_any a c ar p.routes.length cr p.sends k i W ((hs.below tr).below b) hil (by omega) (by have := hhs.s _ (List.getElem_mem hil); omega) (by omega)
            have Hg : Hid (p.sends.getD i 0 = p.sends[i]) := Lib.hid (by simp [hil])
            obtain ⟨y, hy⟩ : ∃ y, latestF p i = y := ⟨_, rfl⟩
            obtain ⟨z, hz⟩ : ∃ z, p.sends[i] + (k : Int) = z := ⟨_, rfl⟩
            rw [hy] at hL
            rw [hz] at hD
            have Hb : Hid (sureB (withPat p k) i = decide (y ≤ z)) := Lib.hid (by rw [sureB_pat, Hg.out, hy, hz])
            have Hb2 : Hid (z < y → allSure p k = false) := Lib.hid (fun h => allSure_bad hil (by rw [Hg.out, hz, hy]; exact h))
            have lz := hb6.size
            have hiI : (i : Int) < (p.sends.length : Int) := by omega
            clear hy hz Hg cWr
            by_cases hyz : y ≤ z
            all_goals
              go_wp2
              (refine wp_region_ext 10 (by kernel_rfl) (by kernel_rfl) ?_; simp only [List.take_succ_cons, List.take_zero, List.drop_succ_cons, List.drop_zero]; (repeat (go_big_quiet_step ((first | (go_at_call 76; refine Calls_ext (hD _ (Ext.below _))) | (go_at_call 74; refine Calls_ext (hL _ (Ext.below _))))))); refine wpQuiet_nil ?_; rintro _ ⟨ex, rfl⟩; have hex := ex.below; have hexz := ex.size; (try simp at hexz); (try (have hy0 : w.heap.size < ex.to.heap.size := by omega)); (try (have hy1 : w.heap.size + 1 < ex.to.heap.size := by omega)); (try (have hy2 : w.heap.size + 2 < ex.to.heap.size := by omega)))
            · go_wp2
              go_roundg gi
              case rel => exact ⟨i + 1, by omega, by go_num, all_range_succ Hall.out (by rw [Hb.out]; simpa using hyz), hb6.trans (hex.mono lz)⟩
              case measure => omega
            · go_wp2
              go_roundg gq
              case rel => exact ⟨k + 1, k, by omega, by go_num, below_succ' Hno.out (Hb2.out (by omega)), b5.trans ((hb6.trans (hex.mono lz)).mono b5.size), (cP5.below hb6).below hex, (hW5w.below hb6).below hex⟩
              case measure => omega
          | zero =>
            obtain rfl : i = p.sends.length := by omega
            have hF : leastF p = some k := leastF_ok hkl Hno.out Hall.out
            have e1 := Hout.out
            have e2 := Herr.out
            rw [hF] at e1 e2
            have e1 : oo = (k : Int) := e1
            have e2 : ee = 0 := e2
            clear hF Hout Herr
            subst e1 e2
            go_wp2
            (try rw [Exit.noGoto_ret])
            go_ret2
            exact ⟨rfl, b5.trans (hb6.mono b5.size)⟩
      | zero =>
        obtain rfl : k = 31 := by omega
        have hF : leastF p = none := leastF_bad Hno.out
        have e1 := Hout.out
        have e2 := Herr.out
        rw [hF] at e1 e2
        have e1 : oo = 0 := e1
        have e2 : ee = 9 := e2
        clear hF Hout Herr
        subst e1 e2
        go_wp2
        (try rw [Exit.noGoto_ret])
        go_ret2
        exact ⟨rfl, hb⟩
  · have hE : leastErr p = postErr p := by unfold leastErr; rw [if_pos h0]
    have hO : leastOut p = 0 := by unfold leastOut; rw [if_pos h0]
    rw [hO, hE]
    obtain ⟨E, hEe⟩ : ∃ E, postErr p = E := ⟨_, rfl⟩
    rw [hEe] at chk bd h0 ⊢
    have hne : (E != 0) = true := by simpa using h0
    clear h0 hO hE hEe
    go_enter Try.func34, Try.ntmps34
    go_wp2
    go_step3
    go_wp2_with fail
    go_at_call 20
    with_reducible refine (chk _ t0).mono ?_
    rintro e w1 ⟨rfl, hb1⟩
    have t1 : Below w.heap.size w w1 := t0.trans (hb1.mono t0.size)
    go_wp2_with fail
    (try rw [Exit.noGoto_ret])
    go_ret2
    exact ⟨rfl, t1⟩
end Go.Proofs.Ytfclemnkcpadpaa
