/- CopiesAwake: the walk -/
import Derived.Test.YtfclemnkcpadpaaSd
import Derived.Test.YtfclemnkcpadpaaSf
namespace Go.Proofs.Ytfclemnkcpadpaa
set_option linter.unusedVariables false
set_option linter.unusedSimpArgs false
set_option linter.unnecessarySimpa false
open Go.RowKit Go.Flow Go.Shelf

theorem SrcAt.below {w w' : World} {a : Option Addr} {xs : List Value} (h : SrcAt w a xs) (hb : Below w.heap.size w w') : SrcAt w' a xs := fun j u hu =>
  let ⟨b, off, e, hc⟩ := h j u hu
  ⟨b, off, e, below_cell hb hc⟩
theorem bare_small {r : Nat} {p : Post} (h : PostSmall p) : PostSmall (bareP p r) := by
  have hmem : ∀ x ∈ (bareP p r).routes, ∃ y ∈ p.routes, x = y ∨ x = bareR y := by
    intro x hx
    obtain ⟨k, hk, rfl⟩ := List.mem_iff_getElem.1 hx
    have hk' : k < p.routes.length := by simpa [bareP] using hk
    refine ⟨p.routes[k], List.getElem_mem hk', ?_⟩
    simp only [bareP, List.getElem_modify]
    split
    · exact Or.inr rfl
    · exact Or.inl rfl
  refine ⟨h.1, by simpa [bareP] using h.2, fun x hx => ?_, fun x hx l hl => ?_⟩
  · obtain ⟨y, hy, rfl | rfl⟩ := hmem x hx
    · exact h.l _ hy
    · simpa [bareR] using h.l y hy
  · obtain ⟨y, hy, rfl | rfl⟩ := hmem x hx
    · exact h.a _ hy l hl
    · obtain ⟨m, hm, rfl⟩ := List.mem_map.1 hl
      simp [bareL]
theorem take_sums {ls : List Leg} {s : Int} (hl : ls.all legOk = true) (h3 : ls.length ≤ 3) (hs : 0 ≤ s ∧ s ≤ 30) (k : Nat) : 0 ≤ loS (ls.take k) s ∧ loS (ls.take k) s ≤ 100 ∧ 0 ≤ hiS (ls.take k) s ∧ hiS (ls.take k) s ≤ 100 := by
  have ha : (ls.take k).all legOk = true := by
    rw [List.all_eq_true] at hl ⊢
    exact fun x hx => hl x (List.mem_of_mem_take hx)
  have := sums_bd (ls.take k) s s ha (Int.le_refl _)
  have hlen : (ls.take k).length ≤ 3 := by rw [List.length_take]; omega
  omega

set_option maxRecDepth 100000 in
set_option maxHeartbeats 8000000 in
theorem awake_a1 (a : Option Addr) (c : Nat) (ar : Option Addr) (cr : Nat) (p : Post) (y2 y3 : Int) (w : World) (hs : IntsAt w a p.sends) (hr : RoutesAt w ar p.routes) (na : a = none → c = 0) (big : PostBig p) (hT : readyB p = false) :
    Calls Try.prog 11 #[.agg #[.slice a p.sends.length c, .slice ar p.routes.length cr, .int .i64 p.pat], .int .u8 y2, .int .u8 y3] w fun e w' => e = .returned (.bool true) ∧ Below w.heap.size w w' := by

  have HB := Lib.hid big
  have HT := Lib.hid hT
  clear hT big
  go_enter Try.func11, Try.ntmps11
  go_wp2_with fail
  go_at_call 44
  refine (ready_eq a c ar cr p _ false HT (hs.below (by (repeat (first | exact Below.refl _ _ | refine Below.alloc ?_ (by first | omega | (simp; done) | (simp; omega)) _ | refine Below.drew ?_ | refine Below.setCell ?_ (by first | omega | (simp; done) | (simp; omega)) _ | refine Below.trans ?_ (Below.mono (by assumption) (by first | omega | (simp; done) | (simp; omega))))))) (hr.below (by (repeat (first | exact Below.refl _ _ | refine Below.alloc ?_ (by first | omega | (simp; done) | (simp; omega)) _ | refine Below.drew ?_ | refine Below.setCell ?_ (by first | omega | (simp; done) | (simp; omega)) _ | refine Below.trans ?_ (Below.mono (by assumption) (by first | omega | (simp; done) | (simp; omega))))))) HB.out).mono ?_
  rintro e w1 ⟨rfl, b1⟩
  have t1 : Below w.heap.size w w1 := by (repeat (first | exact Below.refl _ _ | refine Below.alloc ?_ (by first | omega | (simp; done) | (simp; omega)) _ | refine Below.drew ?_ | refine Below.setCell ?_ (by first | omega | (simp; done) | (simp; omega)) _ | refine Below.trans ?_ (Below.mono (by assumption) (by first | omega | (simp; done) | (simp; omega)))))
  replace hs := hs.below t1
  replace hr := hr.below t1
  have q0 := box_cells b1 0 rfl
  have q1 := box_cells b1 1 rfl
  have q2 := box_cells b1 2 rfl
  have lB := cell_ltK q0
  go_wp2_with fail
  go_at_call 19
  refine (awake_any _).mono ?_
  rintro e w2 ⟨rfl, b2⟩
  have j2 : Below w1.heap.size w1 w2 := by (repeat (first | exact Below.refl _ _ | refine Below.alloc ?_ (by first | omega | (simp; done) | (simp; omega)) _ | refine Below.drew ?_ | refine Below.setCell ?_ (by first | omega | (simp; done) | (simp; omega)) _ | refine Below.trans ?_ (Below.mono (by assumption) (by first | omega | (simp; done) | (simp; omega)))))
  have t2 : Below w.heap.size w w2 := t1.trans (j2.mono t1.size)
  replace hs := hs.below j2
  replace hr := hr.below j2
  replace q0 := below_cell j2 q0
  replace q1 := below_cell j2 q1
  replace q2 := below_cell j2 q2
  replace lB := Nat.lt_of_lt_of_le lB j2.size
  go_wp2_with fail
  go_ret
  exact ⟨rfl, t2⟩

set_option maxRecDepth 100000 in
set_option maxHeartbeats 8000000 in
theorem awake_a2 (a : Option Addr) (c : Nat) (ar : Option Addr) (cr : Nat) (p : Post) (y2 y3 : Int) (w : World) (hs : IntsAt w a p.sends) (hr : RoutesAt w ar p.routes) (na : a = none → c = 0) (big : PostBig p) (hy2 : (Lit.int .u8 y2).wf = true) (hy3 : (Lit.int .u8 y3).wf = true) (hT : readyB p = true) :
    Calls Try.prog 11 #[.agg #[.slice a p.sends.length c, .slice ar p.routes.length cr, .int .i64 p.pat], .int .u8 y2, .int .u8 y3] w fun e w' => e = .returned (.bool true) ∧ Below w.heap.size w w' := by

  have HB := Lib.hid big
  have HT := Lib.hid hT
  have SM := Lib.hid (ready_small hT).1
  have HE := Lib.hid (ready_small hT).2
  have lS : p.sends.length ≤ 1000 := SM.out.1
  have lR : p.routes.length ≤ 1000 := SM.out.2
  obtain ⟨m2, rfl, hm2⟩ := u8_bd hy2
  obtain ⟨m3, rfl, hm3⟩ := u8_bd hy3
  have pS : 0 < p.sends.length := List.length_pos_iff.2 (postErr_ok HE.out).2.2.2.1
  have pR : 0 < p.routes.length := List.length_pos_iff.2 (postErr_ok HE.out).2.2.2.2.1
  have hdi : ¬ ((p.sends.length : Int) = 0) := by omega
  have hdr : ¬ ((p.routes.length : Int) = 0) := by omega
  obtain ⟨i, hi⟩ : ∃ i, m2 % p.sends.length = i := ⟨_, rfl⟩
  obtain ⟨r, hr'⟩ : ∃ r, m3 % p.routes.length = r := ⟨_, rfl⟩
  have hiN : i < p.sends.length := by rw [← hi]; exact Nat.mod_lt _ pS
  have hrR : r < p.routes.length := by rw [← hr']; exact Nat.mod_lt _ pR
  have hti : Int.tmod (m2 : Int) (p.sends.length : Int) = (i : Int) := by rw [← hi]; rfl
  have htr : Int.tmod (m3 : Int) (p.routes.length : Int) = (r : Int) := by rw [← hr']; rfl
  have hw2 : IntKind.i64.wrap (m2 : Int) = (m2 : Int) := IntWalk.i64_in _ (by omega)
  have hw3 : IntKind.i64.wrap (m3 : Int) = (m3 : Int) := IntWalk.i64_in _ (by omega)
  have hiI : (i : Int) < (p.sends.length : Int) := by omega
  have hrI : (r : Int) < (p.routes.length : Int) := by omega
  have hsb := (post_hours HE.out).s _ (List.getElem_mem hiN)
  have hrl := post_legs HE.out p.routes[r] (List.getElem_mem hrR)
  have hok := List.all_eq_true.1 (postErr_ok HE.out).2.2.2.2.2.2.2.2 _ (List.getElem_mem hrR)
  have pL : 0 < p.routes[r].legs.length := by
    simp only [routeOk, Bool.and_eq_true, decide_eq_true_eq] at hok
    exact hok.1
  have l3 : p.routes[r].legs.length ≤ 3 := hrl.1
  have HLok := Lib.hid hrl.2.1
  have HTS := Lib.hid (take_sums hrl.2.1 hrl.1 hsb)
  have SX := Lib.hid (bare_small (r := r) SM.out)
  have HX := Lib.hid (bare_ok (r := r) HE.out)
  obtain ⟨bd1, bd2, bd3⟩ := bare_bd HE.out hiN hrR
  obtain ⟨hh1, hh2⟩ := bare_hours HE.out hiN hrR
  obtain ⟨hg1, O, hg2, hg3, hg4, hg5, hg6⟩ := awake_hours HE.out hiN hrR
  have esd : p.sends.getD i 0 = p.sends[i] := by simp [hiN]
  rw [esd] at bd1 bd2 bd3 hh2 hg5 hg6
  have HNx : Hid ((bareP p r).sends.length = p.sends.length) := Lib.hid rfl
  have HRx : Hid ((bareP p r).routes.length = p.routes.length) := Lib.hid (by simp [bareP])
  have HPx : Hid ((bareP p r).pat = p.pat) := Lib.hid rfl
  have Hrm : Hid ((bareP p r).routes = p.routes.modify r bareR) := Lib.hid rfl
  have Hge : Hid (p.routes[r]? = some p.routes[r]) := Lib.hid (List.getElem?_eq_getElem hrR)
  have Hrr := Lib.hid (fun (w : World) (h : RoutesAt w ar p.routes) => h r hrR)
  obtain ⟨legs, hlegs⟩ : ∃ x, p.routes[r].legs = x := ⟨_, rfl⟩
  obtain ⟨s, hse⟩ : ∃ x, p.sends[i] = x := ⟨_, rfl⟩
  rw [hlegs] at pL l3 HLok HTS bd1 bd2 bd3 hh2 hg5 hg6
  rw [hse] at hsb HTS bd1 bd2 bd3 hh2 hg5 hg6
  have Hlegs := Lib.hid hlegs
  have Hse := Lib.hid hse
  obtain ⟨n, hn⟩ : ∃ n, legs.length = n := ⟨_, rfl⟩
  have Hn := Lib.hid hn
  rw [hn] at pL l3
  obtain ⟨nX, hnX⟩ : ∃ n, (hiS legs s - loS legs s + 1).toNat = n := ⟨_, rfl⟩
  have hnXI : (nX : Int) = hiS legs s - loS legs s + 1 := by omega
  rw [hnX] at hh2
  obtain ⟨OX, hOX⟩ : ∃ OX, (List.range nX).map (fun (k : Nat) => loS legs s + (k : Int)) = OX := ⟨_, rfl⟩
  have hOXl : OX.length = nX := by rw [← hOX]; simp
  have HOXk : Hid (∀ k (h : k < OX.length), OX[k] = loS legs s + (k : Int)) := Lib.hid (fun k h => by subst hOX; simp)
  rw [hOX] at hh2
  obtain ⟨m, hm⟩ : ∃ m, O.length = m + 1 := ⟨O.length - 1, by omega⟩
  have HO := Lib.hid hg2
  have Hm := Lib.hid hm
  have HnX := Lib.hid hOXl
  have HHX := Lib.hid hh2
  have HE1 := Lib.hid hh1
  have HE2 := Lib.hid hg1
  have Hb0 : Hid (∀ h : 0 < O.length, loS legs s ≤ O[0]) := Lib.hid (fun _ => hg5)
  have Hb1 : Hid (∀ h : m < O.length, hiS legs s ≤ O[m]) := Lib.hid (fun h => by have := hg6; simp only [hm, Nat.add_sub_cancel] at this; exact this)
  have lm : m ≤ 100 := by omega
  have HnXI := Lib.hid hnXI
  clear hT big hi hr' hy2 hy3 hrl hok hlegs hse hn hnX hOX hOXl hm hg1 hg2 hg3 hg4 hg5 hg6 hh1 hh2 esd hnXI
  go_enter Try.func11, Try.ntmps11
  go_wp2_with fail
  go_at_call 44
  refine (ready_eq a c ar cr p _ true HT (hs.below (by (repeat (first | exact Below.refl _ _ | refine Below.alloc ?_ (by first | omega | (simp; done) | (simp; omega)) _ | refine Below.drew ?_ | refine Below.setCell ?_ (by first | omega | (simp; done) | (simp; omega)) _ | refine Below.trans ?_ (Below.mono (by assumption) (by first | omega | (simp; done) | (simp; omega))))))) (hr.below (by (repeat (first | exact Below.refl _ _ | refine Below.alloc ?_ (by first | omega | (simp; done) | (simp; omega)) _ | refine Below.drew ?_ | refine Below.setCell ?_ (by first | omega | (simp; done) | (simp; omega)) _ | refine Below.trans ?_ (Below.mono (by assumption) (by first | omega | (simp; done) | (simp; omega))))))) HB.out).mono ?_
  rintro e w1 ⟨rfl, b1⟩
  have t1 : Below w.heap.size w w1 := by (repeat (first | exact Below.refl _ _ | refine Below.alloc ?_ (by first | omega | (simp; done) | (simp; omega)) _ | refine Below.drew ?_ | refine Below.setCell ?_ (by first | omega | (simp; done) | (simp; omega)) _ | refine Below.trans ?_ (Below.mono (by assumption) (by first | omega | (simp; done) | (simp; omega)))))
  replace hs := hs.below t1
  replace hr := hr.below t1
  have q0 := box_cells b1 0 rfl
  have q1 := box_cells b1 1 rfl
  have q2 := box_cells b1 2 rfl
  have lB := cell_ltK q0
  go_wp2_with fail
  obtain ⟨bS, offS, hase, hbS, hs0⟩ := hs i hiN
  obtain ⟨bR, offR, al, ca, hare, hbR, e0, e1, eL⟩ := hr r hrR
  subst hase hare
  (refine wp_region_ext 14 (by kernel_rfl) (by kernel_rfl) ?_; simp only [List.take_succ_cons, List.take_zero, List.drop_succ_cons, List.drop_zero]; (repeat (go_big_quiet_step ((fail)))); refine wpQuiet_nil ?_; rintro _ ⟨ex, rfl⟩; have hex := ex.below; have hexz := ex.size; (try simp at hexz); (try (have hy0 : w.heap.size < ex.to.heap.size := by omega)); (try (have hy1 : w.heap.size + 1 < ex.to.heap.size := by omega)); (try (have hy2 : w.heap.size + 2 < ex.to.heap.size := by omega)))
  have hs0' : w1.cell? ⟨bS, offS + i, none⟩ = some (.int .i64 s) := hs0.trans (by rw [← Hse.out]; simp [hiN])
  rw [Hlegs.out, Hn.out] at e0
  rw [Hlegs.out] at eL
  clear hs0 e1
  have b2 := ex.below
  obtain ⟨w2, hwq⟩ : ∃ x : World, x = ex.to := ⟨_, rfl⟩
  rw [← hwq] at b2 ⊢
  clear hwq
  have j2 : Below w1.heap.size w1 w2 := by (repeat (first | exact Below.refl _ _ | refine Below.alloc ?_ (by first | omega | (simp; done) | (simp; omega)) _ | refine Below.drew ?_ | refine Below.setCell ?_ (by first | omega | (simp; done) | (simp; omega)) _ | refine Below.trans ?_ (Below.mono (by assumption) (by first | omega | (simp; done) | (simp; omega)))))
  have t2 : Below w.heap.size w w2 := t1.trans (j2.mono t1.size)
  replace hs := hs.below j2
  replace hr := hr.below j2
  replace q0 := below_cell j2 q0
  replace q1 := below_cell j2 q1
  replace q2 := below_cell j2 q2
  replace lB := Nat.lt_of_lt_of_le lB j2.size
  replace hs0' := below_cell j2 hs0'
  replace e0 := below_cell j2 e0
  replace eL := eL.below j2
  obtain ⟨psR, lpR, srcR, aslR⟩ := routes_src hr
  obtain ⟨newsR, hnR⟩ : ∃ x, ((p.routes.zip psR).flatMap fun x => routeV x.1 x.2) = x := ⟨_, rfl⟩
  have lnR : newsR.length = p.routes.length * 2 := by rw [← hnR, ownL_len (E := 3) (val := routeV) routeV_len (by omega), lpR]
  have oneR : ∀ u ∈ newsR, u.oneCell' = true := by rw [← hnR]; exact routeV_one
  rw [hnR] at srcR
  have HnR := Lib.hid hnR
  have HaslR := Lib.hid aslR
  have HlpR := Lib.hid lpR
  clear hnR aslR lpR
  obtain ⟨Bx, hBx⟩ : ∃ z : Nat, z = w2.heap.size := ⟨_, rfl⟩
  go_wp2_with (at_builtin; refine wpList_app0 el_rroutes rfl _ _ rfl (w2.heap.size + 1) (w2.heap.size + 1) rfl (Cells.new' _ _ _ _ (by simp)) (Nat.le_refl _) (some ⟨bR, offR, none⟩) p.routes.length cr newsR rfl (fun h => by cases h) lnR (srcR.below (((Below.refl _ _).alloc (Nat.le_refl _) _).alloc (by simp) _)) (by unfold maxLen; omega) (by omega) ?_; intro a5 c5 w5 own5 hb5; have X5 := ((Cells.new w2 #[.slice (some ⟨bS, offS, none⟩) p.sends.length c, .slice (some ⟨bR, offR, none⟩) p.routes.length cr, .int .i64 p.pat] 25).alloc (.cells #[] 54)).below hb5; have y1 := X5.cell 1; have f1 := X5.frozen 1; have l5 := X5.lt; simp at y1)
  rw [← hBx] at X5 l5 ⊢
  have hBx1 : w2.heap.size ≤ Bx := by omega
  obtain ⟨V3, hV3⟩ : ∃ z : World, z = w5.setCell ⟨Bx, 1, none⟩ (.slice a5 p.routes.length c5) := ⟨_, rfl⟩
  have b3 : Below w2.heap.size w2 V3 := by
    rw [hV3]
    exact (((((Below.refl _ _).alloc (Nat.le_refl _) _).alloc (by simp) _).trans (hb5.mono (by simp; omega))).setCell (p := ⟨Bx, 1, none⟩) (by show w2.heap.size ≤ Bx; omega) _)
  have X3 : Cells V3 Bx #[.slice (some ⟨bS, offS, none⟩) p.sends.length c, .slice a5 p.routes.length c5, .int .i64 p.pat] 25 := by rw [hV3]; exact X5.set 1 _
  have own3 : OwnL 54 2 (w2.heap.size + 1) V3 a5 c5 p.routes.length newsR := by rw [hV3]; exact own5.setAt X5 (by decide) 1 _
  rw [← hV3]
  clear hV3 own5 X5 y1 f1 l5 hb5 srcR
  obtain ⟨gR, hgR⟩ : ∃ g, a5 = some ⟨g, 0, none⟩ := by
    rcases own3.form with ⟨_, _, h0, _⟩ | ⟨g, h0, _⟩
    · omega
    · exact ⟨g, h0⟩
  subst hgR
  obtain ⟨hgB, rowR⟩ := own3.row
  have hgB' : Bx < gR := by omega
  clear own3 hBx
  obtain ⟨psL, lpL, srcL, _⟩ := legs_src (eL.below b3)
  obtain ⟨newsL, hnL⟩ : ∃ x, ((legs.zip psL).flatMap fun x => legV x.1 x.2) = x := ⟨_, rfl⟩
  have lnL : newsL.length = n * 3 := by rw [← hnL, ownL_len (E := 3) (val := legV) legV_len (by omega), lpL, Hn.out]
  rw [hnL] at srcL
  have HnL : Hid (newsL = ysK legs psL 0) := Lib.hid (by rw [ysK_zero, hnL])
  have HlpL := Lib.hid lpL
  clear hnL lpL
  have hal : al = none → n = 0 ∧ ca = 0 := fun h => by
    subst h
    obtain ⟨b, off, _, _, hc, _⟩ := eL 0 (by rw [Hn.out]; exact pL)
    cases hc
  have x1 := X3.cell 1
  have lX3 := X3.lt
  have p1 := below_cell b3 q1
  have lp1 := cell_ltK p1
  have d0 := below_cell b3 e0
  have ld0 := cell_ltK d0
  simp at x1
  go_wp2
  (refine wp_region_seq 13 [] [13] 168 [true, true, true, false, true, true, true, true, true, true, false, true, true] [LitV V3.heap.size 0 #[] 86, OwnV 86 3 V3.heap.size n newsL] (by kernel_rfl) (by kernel_rfl) rfl (mono_cons (fun v w w' h hb => h.kept hb) (mono_cons (fun v w w' h hb => h.kept hb) mono_nil)) ?_; simp only [pickOps, List.filterMap_cons, List.filterMap_nil, List.getElem?_toArray, List.getElem?_cons_succ, List.getElem?_cons_zero]; (repeat (refine wpFl_step _ rfl (fun w => (by go_simp; rfl)) ?_)); refine wpFl_nil ?_; simp only [maskOps, dummy, Act.put, List.setIfInBounds_toArray, List.set_cons_zero, List.set_cons_succ, List.take_succ_cons, List.take_zero, List.drop_succ_cons, List.drop_zero]; (repeat (refine wpQB_step (fun K hK => ?_); go_simp; first | (refine hK _ ?_; clear hK K) | (apply Exists.intro; refine ⟨fun ex => ?_, hK _ ?_⟩; (fail); clear hK K))); refine wpQB_nil ?_; simp only [relObl2, under, relEnd, and_true, List.nil_append, List.cons_append])
  refine ⟨⟨?_, ?_⟩, ?_⟩
  · intro e
    go_simp
    exact ⟨(Below.refl _ _).alloc (Nat.le_refl _) _, e.to.heap.size, rfl, e.size, Cells.new _ _ _⟩
  · intro e v1 h1
    obtain ⟨g, rfl, hg, hc⟩ := h1 (by kernel_rfl)
    exact gives_app0 el_rlegs e.to V3.heap.size g _ _ rfl rfl hc hg al n ca newsL rfl hal lnL (srcL.below e.below) (by unfold maxLen; omega) (by omega)
  intro e
  rintro v1 - v2 ⟨aL, cL, rfl, ownL⟩
  simp only [Act.put, List.setIfInBounds_toArray, List.set_cons_zero, List.set_cons_succ]
  have he5 := e.below
  obtain ⟨V5, hV5⟩ : ∃ x : World, x = e.to := ⟨_, rfl⟩
  rw [← hV5] at he5 ownL ⊢
  clear hV5 e srcL
  obtain ⟨gL, hgL⟩ : ∃ g, aL = some ⟨g, 0, none⟩ := by
    rcases ownL.form with ⟨_, _, h0, _⟩ | ⟨g, h0, _⟩
    · omega
    · exact ⟨g, h0⟩
  subst hgL
  obtain ⟨hgL', rowL⟩ := ownL.row
  clear ownL
  rw [HnL.out] at rowL
  have lgR3 := rowR.lt
  have rowR5 := rowR.below he5
  have hgetR : newsR[r * 2]? = some (.slice (psR[r]'(by have := HlpR.out; omega)).1 n (psR[r]'(by have := HlpR.out; omega)).2) := by
    have := flat_get (val := routeV) routeV_len HlpR.out hrR (show 0 < 2 by omega)
    rw [HnR.out, Nat.add_zero] at this
    rw [this]
    simp [routeV, Hlegs.out, Hn.out]
  have s0 := rowR5.cell hgetR
  have f0 := rowR5.frozen (r * 2)
  have l0 := rowR5.lt
  go_wp2
  obtain ⟨V6, hV6⟩ : ∃ z : World, z = V5.setCell ⟨gR, r * 2, none⟩ (.slice (some ⟨gL, 0, none⟩) n cL) := ⟨_, rfl⟩
  have b6 : Below w2.heap.size w2 V6 := by rw [hV6]; exact (b3.trans (he5.mono b3.size)).setCell (p := ⟨gR, r * 2, none⟩) (by show w2.heap.size ≤ gR; omega) _
  have X6 : Cells V6 Bx #[.slice (some ⟨bS, offS, none⟩) p.sends.length c, .slice (some ⟨gR, 0, none⟩) p.routes.length c5, .int .i64 p.pat] 25 := by rw [hV6]; exact (X3.below he5).other (by omega) _ _
  have R6 : RowAt V6 gR 54 (newsR.set (r * 2) (.slice (some ⟨gL, 0, none⟩) n cL)) := by rw [hV6]; exact rowR5.set _ _
  have L6 : RowAt V6 gL 86 (ysK legs psL 0) := by rw [hV6]; exact rowL.other (by omega) _ _
  have hSX : Bx < V3.heap.size := lX3
  rw [← hV6]
  clear hV6 rowR5 rowL rowR s0 f0 l0 x1 lX3 p1 lp1 d0 ld0 X3 he5 e0 eL hal
  obtain ⟨S1, hS1⟩ : ∃ z : Nat, z = V3.heap.size := ⟨_, rfl⟩
  have hS2 : w2.heap.size ≤ S1 := by rw [hS1]; exact b3.size
  rw [← hS1] at hgL' lgR3 hSX
  clear hS1 b3
  have hs2 := hs
  have hr2 := hr
  have q02 := q0
  have q12 := q1
  have q22 := q2
  have tw2 := t2
  have b3 := b6
  obtain ⟨w3, hwq⟩ : ∃ x : World, x = V6 := ⟨_, rfl⟩
  subst hwq
  have j3 : Below w2.heap.size w2 w3 := by (repeat (first | exact Below.refl _ _ | refine Below.alloc ?_ (by first | omega | (simp; done) | (simp; omega)) _ | refine Below.drew ?_ | refine Below.setCell ?_ (by first | omega | (simp; done) | (simp; omega)) _ | refine Below.trans ?_ (Below.mono (by assumption) (by first | omega | (simp; done) | (simp; omega)))))
  have t3 : Below w.heap.size w w3 := t2.trans (j3.mono t2.size)
  replace hs := hs.below j3
  replace hr := hr.below j3
  replace q0 := below_cell j3 q0
  replace q1 := below_cell j3 q1
  replace q2 := below_cell j3 q2
  replace lB := Nat.lt_of_lt_of_le lB j3.size
  replace hs0' := below_cell j3 hs0'
  have b23 := b3
  have hbS3 := cell_ltK hs0'
  go_wp2
  (refine wp_region_ext 12 (by kernel_rfl) (by kernel_rfl) ?_; simp only [List.take_succ_cons, List.take_zero, List.drop_succ_cons, List.drop_zero]; (repeat (go_big_quiet_step ((fail)))); refine wpQuiet_nil ?_; rintro _ ⟨ex, rfl⟩; have hex := ex.below; have hexz := ex.size; (try simp at hexz); (try (have hy0 : w.heap.size < ex.to.heap.size := by omega)); (try (have hy1 : w.heap.size + 1 < ex.to.heap.size := by omega)); (try (have hy2 : w.heap.size + 2 < ex.to.heap.size := by omega)))
  have b4 := ex.below
  obtain ⟨w4, hwq⟩ : ∃ x : World, x = ex.to := ⟨_, rfl⟩
  rw [← hwq] at b4 ⊢
  clear hwq
  have j4 : Below w3.heap.size w3 w4 := by (repeat (first | exact Below.refl _ _ | refine Below.alloc ?_ (by first | omega | (simp; done) | (simp; omega)) _ | refine Below.drew ?_ | refine Below.setCell ?_ (by first | omega | (simp; done) | (simp; omega)) _ | refine Below.trans ?_ (Below.mono (by assumption) (by first | omega | (simp; done) | (simp; omega)))))
  have t4 : Below w.heap.size w w4 := t3.trans (j4.mono t3.size)
  replace hs := hs.below j4
  replace hr := hr.below j4
  replace q0 := below_cell j4 q0
  replace q1 := below_cell j4 q1
  replace q2 := below_cell j4 q2
  replace lB := Nat.lt_of_lt_of_le lB j4.size
  replace hs0' := below_cell j4 hs0'
  replace X6 := X6.below j4
  replace R6 := R6.below j4
  replace L6 := L6.below j4
  have b24 : Below w2.heap.size w2 w4 := b23.trans (j4.mono b23.size)
  clear b23 hs hr q0 q1 q2 hs0' b4
  go_wp2
  go_loopw [10, 11, 12] (fun x y u wr => ∃ k : Nat, k ≤ n ∧ u = .int .i64 k ∧ x = .int .i64 (loS (legs.take k) s) ∧ y = .int .i64 (hiS (legs.take k) s) ∧ RowAt wr gL 86 (ysK legs psL k) ∧ Below S1 w4 wr) (fun _ _ u _ => n - (intOf u).toNat)
  case atStart => exact ⟨0, Nat.zero_le _, rfl, rfl, rfl, L6, Below.refl _ _⟩
  case round =>
    obtain ⟨k, hk, rfl, rfl, rfl, rowL, hb⟩ := hrel
    clear L6
    have t2w := b24.trans (hb.mono hS2)
    have Xr : Cells wr Bx #[.slice (some ⟨bS, offS, none⟩) p.sends.length c, .slice (some ⟨gR, 0, none⟩) p.routes.length c5, .int .i64 p.pat] 25 := (hb.block Bx hSX).trans X6
    have rowR := R6.base lgR3 hb
    have hgetL : (newsR.set (r * 2) (.slice (some ⟨gL, 0, none⟩) n cL))[r * 2]? = some (.slice (some ⟨gL, 0, none⟩) n cL) := by
      rw [List.getElem?_set, if_pos rfl, if_pos (by omega)]
    have x1 := Xr.cell 1
    have lX := Xr.lt
    have r0 := rowR.cell hgetL
    have lr0 := rowR.lt
    simp at x1
    obtain ⟨bk1, bk2, bk3, bk4⟩ := HTS.out k
    by_cases hkl : k < n
    · have hkI : (k : Int) < (n : Int) := by omega
      have hkL : k < legs.length := by rw [Hn.out]; exact hkl
      obtain ⟨y0, y1, y2, y3, y4⟩ := ysK_at HlpL.out hkL
      have Hys := Lib.hid (ysK_set HlpL.out hkL)
      have Hlo := Lib.hid (loS_take legs s hkL)
      have Hhi := Lib.hid (hiS_take legs s hkL)
      have hlk := legOk_iff.1 (List.all_eq_true.1 HLok.out _ (List.getElem_mem hkL))
      obtain ⟨bn1, bn2, bn3, bn4⟩ := HTS.out (k + 1)
      obtain ⟨lo, hlo⟩ : ∃ x, loS (legs.take k) s = x := ⟨_, rfl⟩
      obtain ⟨hi, hhi⟩ : ∃ x, hiS (legs.take k) s = x := ⟨_, rfl⟩
      obtain ⟨u0, hu0⟩ : ∃ x, legs[k].lo = x := ⟨_, rfl⟩
      obtain ⟨u1, hu1⟩ : ∃ x, legs[k].hi = x := ⟨_, rfl⟩
      rw [hlo, hu0] at Hlo
      rw [hhi, hu1] at Hhi
      rw [hlo] at bk1 bk2 ⊢
      rw [hhi] at bk3 bk4 ⊢
      rw [Hlo.out] at bn1 bn2
      rw [Hhi.out] at bn3 bn4
      rw [hu0] at y2
      rw [hu1] at y3
      have s2 := rowL.cell y4
      have f2 := rowL.frozen (k * 3 + 2)
      have lL := rowL.lt
      have hwl : IntKind.i64.wrap (lo + u0) = lo + u0 := IntWalk.i64_in _ (by omega)
      have hwh : IntKind.i64.wrap (hi + u1) = hi + u1 := IntWalk.i64_in _ (by omega)
      clear hlo hhi hu0 hu1 y0 y1 y4 hlk
      go_wp2
      obtain ⟨V8, hV8⟩ : ∃ z : World, z = wr.setCell ⟨gL, k * 3 + 2, none⟩ (.slice none 0 0) := ⟨_, rfl⟩
      have b8 : Below S1 wr V8 := by rw [hV8]; exact (Below.refl S1 wr).setCell (p := ⟨gL, k * 3 + 2, none⟩) hgL' _
      have row8 : RowAt V8 gL 86 (ysK legs psL (k + 1)) := by rw [hV8, ← Hys.out]; exact rowL.set _ _
      rw [← hV8]
      clear hV8 s2 f2 lL x1 lX r0 lr0
      have s0 := row8.cell y2
      have s1 := row8.cell y3
      have l8 := row8.lt
      (refine wp_region_ext 16 (by kernel_rfl) (by kernel_rfl) ?_; simp only [List.take_succ_cons, List.take_zero, List.drop_succ_cons, List.drop_zero]; (repeat (go_big_quiet_step ((fail)))); refine wpQuiet_nil ?_; rintro _ ⟨ex, rfl⟩; have hex := ex.below; have hexz := ex.size; (try simp at hexz); (try (have hy0 : w.heap.size < ex.to.heap.size := by omega)); (try (have hy1 : w.heap.size + 1 < ex.to.heap.size := by omega)); (try (have hy2 : w.heap.size + 2 < ex.to.heap.size := by omega)))
      go_wp2
      go_roundw
      case rel => exact ⟨k + 1, by omega, by go_num, by rw [Hlo.out], by rw [Hhi.out], row8.below ex.below, hb.trans (b8.trans (ex.below.mono (by have := hb.size; have := b8.size; omega)))⟩
      case measure => simp [intOf]; omega
    · obtain rfl : k = n := by omega
      have htk : legs.take k = legs := List.take_of_length_le (by rw [Hn.out]; omega)
      rw [htk]
      rw [htk] at bk1 bk2 bk3 bk4
      have rowL' : RowAt wr gL 86 (ysK legs psL legs.length) := by rw [Hn.out]; exact rowL
      have hLB := legs_of_bare rowL'
      have hr5 := hr2.below t2w
      have hs5 := hs2.below t2w
      have oX : RoutesAt wr (some ⟨gR, 0, none⟩) (bareP p r).routes := by
        rw [Hrm.out]
        refine routes_bared (E := 54) hrR (aL := some ⟨gL, 0, none⟩) (cL := cL) (ps := psR) ?_ HlpR.out (fun q x pp h1 h2 => (HaslR.out q x pp h1 h2).below t2w) (by rw [Hlegs.out]; exact hLB)
        rw [HnR.out, Hlegs.out, Hn.out]
        exact rowR
      have u0 := Xr.cell 0
      have u2 := Xr.cell 2
      simp at u0 u2
      have p0 := below_cell t2w q02
      have p1 := below_cell t2w q12
      have p2 := below_cell t2w q22
      have lp := cell_ltK p0
      have tw5 := tw2.trans (t2w.mono tw2.size)
      clear htk rowL' hLB rowL rowR hb t2w b24 R6 X6 hr2 hs2 q02 q12 q22 tw2 hgetL hk HaslR
      obtain ⟨v0, hv0⟩ : ∃ z : World, z = wr := ⟨_, rfl⟩
      subst hv0
      go_wp2_with fail
      go_at_call 21
      refine (postN_eq HNx HRx HPx hs5 oX SX (fun h => by cases h)).mono ?_
      rintro e v1 ⟨⟨a6, c6, r6, d6, rfl, s6, o6⟩, b1⟩
      have t1 : Below v0.heap.size v0 v1 := by (repeat (first | exact Below.refl _ _ | refine Below.alloc ?_ (by first | omega | (simp; done) | (simp; omega)) _ | refine Below.drew ?_ | refine Below.setCell ?_ (by first | omega | (simp; done) | (simp; omega)) _ | refine Below.trans ?_ (Below.mono (by assumption) (by first | omega | (simp; done) | (simp; omega)))))
      replace hs5 := hs5.below t1
      replace hr5 := hr5.below t1
      replace oX := oX.below t1
      replace u0 := below_cell t1 u0
      replace x1 := below_cell t1 x1
      replace u2 := below_cell t1 u2
      replace p0 := below_cell t1 p0
      replace p1 := below_cell t1 p1
      replace p2 := below_cell t1 p2
      replace lX := Nat.lt_of_lt_of_le lX t1.size
      replace lp := Nat.lt_of_lt_of_le lp t1.size
      go_wp2_with fail
      go_at_call 28
      refine (hoursN_eq (a := a6) (c := c6) (ar := r6) (cr := d6) HNx HRx HPx i r 0 OX nX HE1 HHX HnX s6 o6 SX).mono ?_
      rintro e v2 ⟨⟨e6, f6, rfl, i6⟩, b2⟩
      have j2 : Below v1.heap.size v1 v2 := by (repeat (first | exact Below.refl _ _ | refine Below.alloc ?_ (by first | omega | (simp; done) | (simp; omega)) _ | refine Below.drew ?_ | refine Below.setCell ?_ (by first | omega | (simp; done) | (simp; omega)) _ | refine Below.trans ?_ (Below.mono (by assumption) (by first | omega | (simp; done) | (simp; omega)))))
      have t2 : Below v0.heap.size v0 v2 := t1.trans (j2.mono t1.size)
      replace hs5 := hs5.below j2
      replace hr5 := hr5.below j2
      replace oX := oX.below j2
      replace u0 := below_cell j2 u0
      replace x1 := below_cell j2 x1
      replace u2 := below_cell j2 u2
      replace p0 := below_cell j2 p0
      replace p1 := below_cell j2 p1
      replace p2 := below_cell j2 p2
      replace lX := Nat.lt_of_lt_of_le lX j2.size
      replace lp := Nat.lt_of_lt_of_le lp j2.size
      replace s6 := s6.below j2
      replace o6 := o6.below j2
      clear s6 o6
      go_wp2_with fail
      go_at_call 21
      refine (post_eq (some ⟨bS, offS, none⟩) c (some ⟨bR, offR, none⟩) cr p _ hs5 hr5 SM (fun h => by cases h)).mono ?_
      rintro e v3 ⟨⟨a7, c7, r7, d7, rfl, s7, o7⟩, b3⟩
      have j3 : Below v2.heap.size v2 v3 := by (repeat (first | exact Below.refl _ _ | refine Below.alloc ?_ (by first | omega | (simp; done) | (simp; omega)) _ | refine Below.drew ?_ | refine Below.setCell ?_ (by first | omega | (simp; done) | (simp; omega)) _ | refine Below.trans ?_ (Below.mono (by assumption) (by first | omega | (simp; done) | (simp; omega)))))
      have t3 : Below v0.heap.size v0 v3 := t2.trans (j3.mono t2.size)
      replace hs5 := hs5.below j3
      replace hr5 := hr5.below j3
      replace oX := oX.below j3
      replace u0 := below_cell j3 u0
      replace x1 := below_cell j3 x1
      replace u2 := below_cell j3 u2
      replace p0 := below_cell j3 p0
      replace p1 := below_cell j3 p1
      replace p2 := below_cell j3 p2
      replace lX := Nat.lt_of_lt_of_le lX j3.size
      replace lp := Nat.lt_of_lt_of_le lp j3.size
      replace i6 := i6.below j3
      go_wp2_with fail
      go_at_call 28
      refine (hours_eq a7 c7 r7 d7 p _ i r 0 O (m + 1) HE2 HO Hm s7 o7 SM).mono ?_
      rintro e v4 ⟨⟨e7, f7, rfl, i7⟩, b4⟩
      have j4 : Below v3.heap.size v3 v4 := by (repeat (first | exact Below.refl _ _ | refine Below.alloc ?_ (by first | omega | (simp; done) | (simp; omega)) _ | refine Below.drew ?_ | refine Below.setCell ?_ (by first | omega | (simp; done) | (simp; omega)) _ | refine Below.trans ?_ (Below.mono (by assumption) (by first | omega | (simp; done) | (simp; omega)))))
      have t4 : Below v0.heap.size v0 v4 := t3.trans (j4.mono t3.size)
      replace hs5 := hs5.below j4
      replace hr5 := hr5.below j4
      replace oX := oX.below j4
      replace u0 := below_cell j4 u0
      replace x1 := below_cell j4 x1
      replace u2 := below_cell j4 u2
      replace p0 := below_cell j4 p0
      replace p1 := below_cell j4 p1
      replace p2 := below_cell j4 p2
      replace lX := Nat.lt_of_lt_of_le lX j4.size
      replace lp := Nat.lt_of_lt_of_le lp j4.size
      replace i6 := i6.below j4
      replace s7 := s7.below j4
      replace o7 := o7.below j4
      clear s7 o7
      have h0O : 0 < O.length := by rw [Hm.out]; omega
      have hmO : m < O.length := by rw [Hm.out]; omega
      obtain ⟨g1, off1, rfl, hg1, z0⟩ := i7 0 h0O
      have z1 : v4.cell? ⟨g1, off1 + m, none⟩ = some (.int .i64 O[m]) := by
        obtain ⟨g2, off2, he2, hg2, z2⟩ := i7 m hmO
        cases he2
        exact z2.trans (by simp [hmO])
      replace z0 : v4.cell? ⟨g1, off1, none⟩ = some (.int .i64 O[0]) := by simpa [h0O] using z0
      have k0 := Hb0.out h0O
      have k1 := Hb1.out hmO
      obtain ⟨w0, hw0⟩ : ∃ x, O[0] = x := ⟨_, rfl⟩
      obtain ⟨w9, hw9⟩ : ∃ x, O[m] = x := ⟨_, rfl⟩
      rw [hw0] at z0 k0
      rw [hw9] at z1 k1
      clear hw0 hw9 h0O hmO
      have hsum : hiS legs s - loS legs s + 1 = (nX : Int) := HnXI.out.symm
      have hk0 : ¬ (w0 < loS legs s) := by omega
      have hk1 : ¬ (w9 < hiS legs s) := by omega
      obtain ⟨lo, hlo⟩ : ∃ x, loS legs s = x := ⟨_, rfl⟩
      obtain ⟨hi, hhi⟩ : ∃ x, hiS legs s = x := ⟨_, rfl⟩
      rw [hlo] at hsum hk0 bk1 bk2 HOXk k0 ⊢
      rw [hhi] at hsum hk1 bk3 bk4 k1 ⊢
      rw [hlo] at bd1 bd2
      rw [hhi] at bd2 bd3
      clear hlo hhi k0 k1
      have hm0 : (((m : Int) + 1) == 0) = false := by simp; omega
      have hm1 : ¬ ((m : Int) + 1 = 0) := by omega
      go_wp2_with fail
      go_loopw [18] (fun u wr => ∃ k : Nat, k ≤ nX ∧ u = .int .i64 k ∧ Below v4.heap.size v4 wr) (fun u _ => nX - (intOf u).toNat)
      case atStart => exact ⟨0, Nat.zero_le _, rfl, Below.refl _ _⟩
      case round =>
        obtain ⟨q, hq, rfl, hb6⟩ := hrel
        have z6 := hb6.size
        by_cases hql : q < nX
        · have hqI : (q : Int) < (nX : Int) := by omega
          have hqX : q < OX.length := by rw [HnX.out]; exact hql
          obtain ⟨g2, off2, rfl, hg2, y0⟩ := (i6.below hb6) q hqX
          replace y0 : wr.cell? ⟨g2, off2 + q, none⟩ = some (.int .i64 (lo + (q : Int))) := y0.trans (by rw [← HOXk.out q hqX]; simp [hqX])
          have hwq : IntKind.i64.wrap (lo + (q : Int)) = lo + (q : Int) := IntWalk.i64_in _ (by omega)
          clear hqX
          go_wp2
          go_roundw
          case rel => exact ⟨q + 1, by omega, by go_num, hb6⟩
          case measure => simp [intOf]; omega
        · have hqI : ¬ ((q : Int) < (nX : Int)) := by omega
          go_wp2_with fail
          go_at_call 19
          refine (awake_any _).mono ?_
          rintro e x3 ⟨rfl, b3⟩
          go_wp2_with fail
          go_ret
          have y1 := t4.trans (hb6.mono t4.size)
          exact ⟨rfl, tw5.trans ((y1.trans (b3.mono y1.size)).mono tw5.size)⟩

theorem awake_walk (a : Option Addr) (c : Nat) (ar : Option Addr) (cr : Nat) (p : Post) (y2 y3 : Int) (w : World) (hs : IntsAt w a p.sends) (hr : RoutesAt w ar p.routes) (na : a = none → c = 0) (big : PostBig p) (hy2 : (Lit.int .u8 y2).wf = true) (hy3 : (Lit.int .u8 y3).wf = true) :
    Calls Try.prog 11 #[.agg #[.slice a p.sends.length c, .slice ar p.routes.length cr, .int .i64 p.pat], .int .u8 y2, .int .u8 y3] w fun e w' => e = .returned (.bool true) ∧ Below w.heap.size w w' := by
  cases hT : readyB p
  · exact awake_a1 a c ar cr p y2 y3 w hs hr na big hT
  · exact awake_a2 a c ar cr p y2 y3 w hs hr na big hy2 hy3 hT
end Go.Proofs.Ytfclemnkcpadpaa
