/- CopiesMore: the walk -/
import Derived.Test.YtfclemnkcpadpaaSg
namespace Go.Proofs.Ytfclemnkcpadpaa
set_option linter.unusedVariables false
set_option linter.unusedSimpArgs false
set_option linter.unnecessarySimpa false
open Go.RowKit Go.Flow Go.Shelf

theorem SrcAt.below {w w' : World} {a : Option Addr} {xs : List Value} (h : SrcAt w a xs) (hb : Below w.heap.size w w') : SrcAt w' a xs := fun j u hu =>
  let ⟨b, off, e, hc⟩ := h j u hu
  ⟨b, off, e, below_cell hb hc⟩

theorem inside_eq (a : Option Addr) (xs : List Int) (n c : Nat) (hn : Hid (xs.length = n)) (b : Option Addr) (ys : List Int) (m d : Nat) (hm : Hid (ys.length = m)) (H : Hid (insideB xs ys = true)) (w : World) (hx : IntsAt w a xs) (hy : IntsAt w b ys) (lx : n ≤ 1000) (ly : m ≤ 1000) :
    Calls Try.prog 45 #[.slice a n c, .slice b m d] w fun e w' => e = .returned (.bool true) ∧ Below w.heap.size w w' := by
  obtain ⟨rfl⟩ := hn
  obtain ⟨rfl⟩ := hm
  have := inside_any a xs c b ys d w hx hy (by omega) (by omega)
  rw [H.out] at this
  exact this

set_option maxRecDepth 100000 in
set_option maxHeartbeats 8000000 in
theorem more_a1 (a : Option Addr) (c : Nat) (ar : Option Addr) (cr : Nat) (p : Post) (al : Option Addr) (ca : Nat) (mo : Route) (w : World) (hs : IntsAt w a p.sends) (hr : RoutesAt w ar p.routes) (na : a = none → c = 0) (big : PostBig p) (nr : ar = none → cr = 0) (hz : p.routes.length * 32 ≤ 140737488351232) (hm : LegsAt w al mo.legs) (bm : RouteBig mo) (hT : readyB p = false) :
    Calls Try.prog 8 #[.agg #[.slice a p.sends.length c, .slice ar p.routes.length cr, .int .i64 p.pat], .agg #[.slice al mo.legs.length ca, .bool mo.lossy]] w fun e w' => e = .returned (.bool true) ∧ Below w.heap.size w w' := by

  have HB := Lib.hid big
  have HT := Lib.hid hT
  have HBX := Lib.hid (more_big big bm hz)
  have HNx : Hid ((withMore p mo).sends.length = p.sends.length) := Lib.hid rfl
  have HRx : Hid ((withMore p mo).routes.length = p.routes.length + 1) := Lib.hid (by simp [withMore])
  have HPx : Hid ((withMore p mo).pat = p.pat) := Lib.hid rfl
  obtain ⟨psR, lpR, srcR, aslR⟩ := routes_src hr
  obtain ⟨newsR, hnR⟩ : ∃ x, ((p.routes.zip psR).flatMap fun x => routeV x.1 x.2) = x := ⟨_, rfl⟩
  have lnR : newsR.length = p.routes.length * 2 := by rw [← hnR, ownL_len (E := 3) (val := routeV) routeV_len (by omega), lpR]
  have oneR : ∀ u ∈ newsR, u.oneCell' = true := by rw [← hnR]; exact routeV_one
  rw [hnR] at srcR
  have HnR := Lib.hid hnR
  have HaslR := Lib.hid aslR
  have HlpR := Lib.hid lpR
  have har : ar = none → p.routes.length = 0 ∧ cr = 0 := fun h => by
    refine ⟨?_, nr h⟩
    subst h
    rcases Nat.eq_zero_or_pos p.routes.length with e | e
    · exact e
    · obtain ⟨b, off, _, _, hc, _⟩ := hr 0 e
      cases hc
  clear hT big bm hnR aslR lpR
  go_enter Try.func8, Try.ntmps8
  go_wp2_with fail
  obtain ⟨W0, hW0⟩ : ∃ z : World, z = ((w.alloc (.cells #[.slice a p.sends.length c, .slice ar p.routes.length cr, .int .i64 p.pat] 25)).alloc (.cells #[.slice al mo.legs.length ca, .bool mo.lossy] 54)).alloc (.cells #[.slice a p.sends.length c, .slice ar p.routes.length cr, .int .i64 p.pat] 25) := ⟨_, rfl⟩
  have t0 : Below w.heap.size w W0 := by rw [hW0]; (repeat (first | exact Below.refl _ _ | refine Below.alloc ?_ (by first | omega | (simp; done) | (simp; omega)) _ | refine Below.drew ?_ | refine Below.setCell ?_ (by first | omega | (simp; done) | (simp; omega)) _ | refine Below.trans ?_ (Below.mono (by assumption) (by first | omega | (simp; done) | (simp; omega)))))
  have C0 : Cells W0 w.heap.size #[.slice a p.sends.length c, .slice ar p.routes.length cr, .int .i64 p.pat] 25 := by rw [hW0]; exact ((Cells.new _ _ _).alloc _).alloc _
  have C1 : Cells W0 (w.heap.size + 1) #[.slice al mo.legs.length ca, .bool mo.lossy] 54 := by rw [hW0]; exact (Cells.new' _ _ _ _ (by simp)).alloc _
  have C2 : Cells W0 (w.heap.size + 1 + 1) #[.slice a p.sends.length c, .slice ar p.routes.length cr, .int .i64 p.pat] 25 := by rw [hW0]; exact Cells.new' _ _ _ _ (by simp)
  rw [← hW0]
  clear hW0
  have k1 := C0.cell 1
  have m0 := C1.cell 0
  have m1 := C1.cell 1
  have l0 := C0.lt
  have l1 := C1.lt
  have l2 := C2.lt
  simp at k1 m0 m1
  have srcR' := srcR.below t0
  (refine wp_region_seq 6 [] [6, 7, 8] 115 [false, true, true, false, true, false] [LitV W0.heap.size 0 #[] 54, OwnV 54 2 W0.heap.size p.routes.length newsR, LitV W0.heap.size 1 #[.slice al mo.legs.length ca, .bool mo.lossy] 54] (by kernel_rfl) (by kernel_rfl) rfl (mono_cons (fun v w w' h hb => h.kept hb) (mono_cons (fun v w w' h hb => h.kept hb) (mono_cons (fun v w w' h hb => h.kept hb) mono_nil))) ?_; simp only [pickOps, List.filterMap_cons, List.filterMap_nil, List.getElem?_toArray, List.getElem?_cons_succ, List.getElem?_cons_zero]; (repeat (refine wpFl_step _ rfl (fun w => (by go_simp; rfl)) ?_)); refine wpFl_nil ?_; simp only [maskOps, dummy, Act.put, List.setIfInBounds_toArray, List.set_cons_zero, List.set_cons_succ, List.take_succ_cons, List.take_zero, List.drop_succ_cons, List.drop_zero]; (repeat (refine wpQB_step (fun K hK => ?_); go_simp; first | (refine hK _ ?_; clear hK K) | (apply Exists.intro; refine ⟨fun ex => ?_, hK _ ?_⟩; (fail); clear hK K))); refine wpQB_nil ?_; simp only [relObl2, under, relEnd, and_true, List.nil_append, List.cons_append])
  refine ⟨⟨fun e => ?_, fun e v1 h1 => ?_, fun e v1 h1 v2 h2 => ?_⟩, fun e => ?_⟩
  · go_simp
    exact ⟨(Below.refl _ _).alloc (Nat.le_refl _) _, e.to.heap.size, rfl, e.size, Cells.new _ _ _⟩
  · obtain ⟨g, rfl, hg, hc⟩ := h1 (by kernel_rfl)
    exact gives_app0 el_rroutes e.to W0.heap.size g _ _ rfl rfl hc hg ar p.routes.length cr newsR rfl har lnR (srcR'.below e.below) (by unfold maxLen; omega) (by omega)
  · go_simp
    exact ⟨(Below.refl _ _).alloc (Nat.le_refl _) _, e.to.heap.size, rfl, e.size, Cells.new _ _ _⟩
  rintro v1 - v2 ⟨a2, c2, rfl, o2⟩ v3 ⟨g3, rfl, hg3, hc3⟩
  simp only [Act.put, List.setIfInBounds_toArray, List.set_cons_zero, List.set_cons_succ]
  have heb := e.below
  obtain ⟨x2, hx2⟩ : ∃ x : World, x = e.to := ⟨_, rfl⟩
  rw [← hx2] at heb hc3 o2 ⊢
  clear hx2 e
  have hez := heb.size
  refine wpList_app el_rroutes rfl _ _ rfl W0.heap.size a2 p.routes.length c2 _ rfl o2 (some ⟨g3, 0, none⟩) 1 1 [.slice al mo.legs.length ca, .bool mo.lossy] rfl (fun h => by cases h) rfl hc3.src (fun u hu => by simp at hu; rcases hu with rfl | rfl <;> rfl) (by unfold maxLen; omega) (by omega) (by omega) ?_
  intro a7 c7 w7 o7 b7
  have b70 := heb.trans b7
  have t7 := t0.trans (b70.mono t0.size)
  have D0 := C0.below b70
  have D2 := C2.below b70
  have x1 := D2.cell 1
  have xf := D2.frozen 1
  have lx := D2.lt
  have p0 := D0.cell 0
  have p1 := D0.cell 1
  have p2 := D0.cell 2
  have lp := D0.lt
  simp at x1 p0 p1 p2
  clear k1 m0 m1 l0 l1 l2 srcR srcR' C0 C1 C2 heb hez hc3 hg3 o2
  go_wp2_with fail
  obtain ⟨v0, hv0⟩ : ∃ z : World, z = w7.setCell ⟨w.heap.size + 1 + 1, 1, none⟩ (.slice a7 (p.routes.length + 1) c7) := ⟨_, rfl⟩
  have tv : Below w.heap.size w v0 := by rw [hv0]; exact t7.setCell (p := ⟨w.heap.size + 1 + 1, 1, none⟩) (by show w.heap.size ≤ w.heap.size + 1 + 1; omega) _
  have E0 : Cells v0 w.heap.size #[.slice a p.sends.length c, .slice ar p.routes.length cr, .int .i64 p.pat] 25 := by rw [hv0]; exact D0.other (by omega) _ _
  have E2 : Cells v0 (w.heap.size + 1 + 1) #[.slice a p.sends.length c, .slice a7 (p.routes.length + 1) c7, .int .i64 p.pat] 25 := by rw [hv0]; exact D2.set 1 _
  have oX : RoutesAt v0 a7 (withMore p mo).routes := by
    have h7 : OwnL 54 2 W0.heap.size v0 a7 c7 (p.routes.length + 1) (((p.routes.zip psR).flatMap fun x => routeV x.1 x.2) ++ routeV mo (al, ca)) := by
      rw [hv0, HnR.out]
      exact OwnL.setAt o7 D2 (by decide) 1 _
    exact routes_more h7 HlpR.out (fun q r pp h1 h2 => (HaslR.out q r pp h1 h2).below tv) (hm.below tv)
  rw [← hv0]
  clear hv0 o7 D0 D2 x1 xf lx p0 p1 p2 lp b7 b70 t7 t0 HaslR HnR hm
  replace hs := hs.below tv
  replace hr := hr.below tv
  have q0 := E0.cell 0
  have q1 := E0.cell 1
  have q2 := E0.cell 2
  have lB := E0.lt
  have u0 := E2.cell 0
  have u1 := E2.cell 1
  have u2 := E2.cell 2
  have lX := E2.lt
  simp at q0 q1 q2 u0 u1 u2
  clear E0 E2
  go_at_call 44
  refine (ready_eq a c ar cr p _ false HT hs hr HB.out).mono ?_
  rintro e v1 ⟨rfl, b1⟩
  have t1 : Below v0.heap.size v0 v1 := by (repeat (first | exact Below.refl _ _ | refine Below.alloc ?_ (by first | omega | (simp; done) | (simp; omega)) _ | refine Below.drew ?_ | refine Below.setCell ?_ (by first | omega | (simp; done) | (simp; omega)) _ | refine Below.trans ?_ (Below.mono (by assumption) (by first | omega | (simp; done) | (simp; omega)))))
  replace hs := hs.below t1
  replace hr := hr.below t1
  replace oX := oX.below t1
  replace q0 := below_cell t1 q0
  replace q1 := below_cell t1 q1
  replace q2 := below_cell t1 q2
  replace u0 := below_cell t1 u0
  replace u1 := below_cell t1 u1
  replace u2 := below_cell t1 u2
  replace lB := Nat.lt_of_lt_of_le lB t1.size
  replace lX := Nat.lt_of_lt_of_le lX t1.size
  go_wp2_with fail
  go_at_call 19
  refine (awake_any _).mono ?_
  rintro e v2 ⟨rfl, b2⟩
  have j2 : Below v1.heap.size v1 v2 := by (repeat (first | exact Below.refl _ _ | refine Below.alloc ?_ (by first | omega | (simp; done) | (simp; omega)) _ | refine Below.drew ?_ | refine Below.setCell ?_ (by first | omega | (simp; done) | (simp; omega)) _ | refine Below.trans ?_ (Below.mono (by assumption) (by first | omega | (simp; done) | (simp; omega)))))
  have t2 : Below v0.heap.size v0 v2 := t1.trans (j2.mono t1.size)
  replace hs := hs.below j2
  replace hr := hr.below j2
  replace oX := oX.below j2
  replace q0 := below_cell j2 q0
  replace q1 := below_cell j2 q1
  replace q2 := below_cell j2 q2
  replace u0 := below_cell j2 u0
  replace u1 := below_cell j2 u1
  replace u2 := below_cell j2 u2
  replace lB := Nat.lt_of_lt_of_le lB j2.size
  replace lX := Nat.lt_of_lt_of_le lX j2.size
  go_wp2_with fail
  go_ret
  exact ⟨rfl, tv.trans (t2.mono tv.size)⟩

set_option maxRecDepth 100000 in
set_option maxHeartbeats 8000000 in
theorem more_a2 (a : Option Addr) (c : Nat) (ar : Option Addr) (cr : Nat) (p : Post) (al : Option Addr) (ca : Nat) (mo : Route) (w : World) (hs : IntsAt w a p.sends) (hr : RoutesAt w ar p.routes) (na : a = none → c = 0) (big : PostBig p) (nr : ar = none → cr = 0) (hz : p.routes.length * 32 ≤ 140737488351232) (hm : LegsAt w al mo.legs) (bm : RouteBig mo) (hT : readyB p = true) (hTX : readyB (withMore p mo) = false) :
    Calls Try.prog 8 #[.agg #[.slice a p.sends.length c, .slice ar p.routes.length cr, .int .i64 p.pat], .agg #[.slice al mo.legs.length ca, .bool mo.lossy]] w fun e w' => e = .returned (.bool true) ∧ Below w.heap.size w w' := by

  have HB := Lib.hid big
  have HT := Lib.hid hT
  have HBX := Lib.hid (more_big big bm hz)
  have HNx : Hid ((withMore p mo).sends.length = p.sends.length) := Lib.hid rfl
  have HRx : Hid ((withMore p mo).routes.length = p.routes.length + 1) := Lib.hid (by simp [withMore])
  have HPx : Hid ((withMore p mo).pat = p.pat) := Lib.hid rfl
  obtain ⟨psR, lpR, srcR, aslR⟩ := routes_src hr
  obtain ⟨newsR, hnR⟩ : ∃ x, ((p.routes.zip psR).flatMap fun x => routeV x.1 x.2) = x := ⟨_, rfl⟩
  have lnR : newsR.length = p.routes.length * 2 := by rw [← hnR, ownL_len (E := 3) (val := routeV) routeV_len (by omega), lpR]
  have oneR : ∀ u ∈ newsR, u.oneCell' = true := by rw [← hnR]; exact routeV_one
  rw [hnR] at srcR
  have HnR := Lib.hid hnR
  have HaslR := Lib.hid aslR
  have HlpR := Lib.hid lpR
  have har : ar = none → p.routes.length = 0 ∧ cr = 0 := fun h => by
    refine ⟨?_, nr h⟩
    subst h
    rcases Nat.eq_zero_or_pos p.routes.length with e | e
    · exact e
    · obtain ⟨b, off, _, _, hc, _⟩ := hr 0 e
      cases hc
  clear hT big bm hnR aslR lpR
  have HTX := Lib.hid hTX
  clear hTX
  go_enter Try.func8, Try.ntmps8
  go_wp2_with fail
  obtain ⟨W0, hW0⟩ : ∃ z : World, z = ((w.alloc (.cells #[.slice a p.sends.length c, .slice ar p.routes.length cr, .int .i64 p.pat] 25)).alloc (.cells #[.slice al mo.legs.length ca, .bool mo.lossy] 54)).alloc (.cells #[.slice a p.sends.length c, .slice ar p.routes.length cr, .int .i64 p.pat] 25) := ⟨_, rfl⟩
  have t0 : Below w.heap.size w W0 := by rw [hW0]; (repeat (first | exact Below.refl _ _ | refine Below.alloc ?_ (by first | omega | (simp; done) | (simp; omega)) _ | refine Below.drew ?_ | refine Below.setCell ?_ (by first | omega | (simp; done) | (simp; omega)) _ | refine Below.trans ?_ (Below.mono (by assumption) (by first | omega | (simp; done) | (simp; omega)))))
  have C0 : Cells W0 w.heap.size #[.slice a p.sends.length c, .slice ar p.routes.length cr, .int .i64 p.pat] 25 := by rw [hW0]; exact ((Cells.new _ _ _).alloc _).alloc _
  have C1 : Cells W0 (w.heap.size + 1) #[.slice al mo.legs.length ca, .bool mo.lossy] 54 := by rw [hW0]; exact (Cells.new' _ _ _ _ (by simp)).alloc _
  have C2 : Cells W0 (w.heap.size + 1 + 1) #[.slice a p.sends.length c, .slice ar p.routes.length cr, .int .i64 p.pat] 25 := by rw [hW0]; exact Cells.new' _ _ _ _ (by simp)
  rw [← hW0]
  clear hW0
  have k1 := C0.cell 1
  have m0 := C1.cell 0
  have m1 := C1.cell 1
  have l0 := C0.lt
  have l1 := C1.lt
  have l2 := C2.lt
  simp at k1 m0 m1
  have srcR' := srcR.below t0
  (refine wp_region_seq 6 [] [6, 7, 8] 115 [false, true, true, false, true, false] [LitV W0.heap.size 0 #[] 54, OwnV 54 2 W0.heap.size p.routes.length newsR, LitV W0.heap.size 1 #[.slice al mo.legs.length ca, .bool mo.lossy] 54] (by kernel_rfl) (by kernel_rfl) rfl (mono_cons (fun v w w' h hb => h.kept hb) (mono_cons (fun v w w' h hb => h.kept hb) (mono_cons (fun v w w' h hb => h.kept hb) mono_nil))) ?_; simp only [pickOps, List.filterMap_cons, List.filterMap_nil, List.getElem?_toArray, List.getElem?_cons_succ, List.getElem?_cons_zero]; (repeat (refine wpFl_step _ rfl (fun w => (by go_simp; rfl)) ?_)); refine wpFl_nil ?_; simp only [maskOps, dummy, Act.put, List.setIfInBounds_toArray, List.set_cons_zero, List.set_cons_succ, List.take_succ_cons, List.take_zero, List.drop_succ_cons, List.drop_zero]; (repeat (refine wpQB_step (fun K hK => ?_); go_simp; first | (refine hK _ ?_; clear hK K) | (apply Exists.intro; refine ⟨fun ex => ?_, hK _ ?_⟩; (fail); clear hK K))); refine wpQB_nil ?_; simp only [relObl2, under, relEnd, and_true, List.nil_append, List.cons_append])
  refine ⟨⟨fun e => ?_, fun e v1 h1 => ?_, fun e v1 h1 v2 h2 => ?_⟩, fun e => ?_⟩
  · go_simp
    exact ⟨(Below.refl _ _).alloc (Nat.le_refl _) _, e.to.heap.size, rfl, e.size, Cells.new _ _ _⟩
  · obtain ⟨g, rfl, hg, hc⟩ := h1 (by kernel_rfl)
    exact gives_app0 el_rroutes e.to W0.heap.size g _ _ rfl rfl hc hg ar p.routes.length cr newsR rfl har lnR (srcR'.below e.below) (by unfold maxLen; omega) (by omega)
  · go_simp
    exact ⟨(Below.refl _ _).alloc (Nat.le_refl _) _, e.to.heap.size, rfl, e.size, Cells.new _ _ _⟩
  rintro v1 - v2 ⟨a2, c2, rfl, o2⟩ v3 ⟨g3, rfl, hg3, hc3⟩
  simp only [Act.put, List.setIfInBounds_toArray, List.set_cons_zero, List.set_cons_succ]
  have heb := e.below
  obtain ⟨x2, hx2⟩ : ∃ x : World, x = e.to := ⟨_, rfl⟩
  rw [← hx2] at heb hc3 o2 ⊢
  clear hx2 e
  have hez := heb.size
  refine wpList_app el_rroutes rfl _ _ rfl W0.heap.size a2 p.routes.length c2 _ rfl o2 (some ⟨g3, 0, none⟩) 1 1 [.slice al mo.legs.length ca, .bool mo.lossy] rfl (fun h => by cases h) rfl hc3.src (fun u hu => by simp at hu; rcases hu with rfl | rfl <;> rfl) (by unfold maxLen; omega) (by omega) (by omega) ?_
  intro a7 c7 w7 o7 b7
  have b70 := heb.trans b7
  have t7 := t0.trans (b70.mono t0.size)
  have D0 := C0.below b70
  have D2 := C2.below b70
  have x1 := D2.cell 1
  have xf := D2.frozen 1
  have lx := D2.lt
  have p0 := D0.cell 0
  have p1 := D0.cell 1
  have p2 := D0.cell 2
  have lp := D0.lt
  simp at x1 p0 p1 p2
  clear k1 m0 m1 l0 l1 l2 srcR srcR' C0 C1 C2 heb hez hc3 hg3 o2
  go_wp2_with fail
  obtain ⟨v0, hv0⟩ : ∃ z : World, z = w7.setCell ⟨w.heap.size + 1 + 1, 1, none⟩ (.slice a7 (p.routes.length + 1) c7) := ⟨_, rfl⟩
  have tv : Below w.heap.size w v0 := by rw [hv0]; exact t7.setCell (p := ⟨w.heap.size + 1 + 1, 1, none⟩) (by show w.heap.size ≤ w.heap.size + 1 + 1; omega) _
  have E0 : Cells v0 w.heap.size #[.slice a p.sends.length c, .slice ar p.routes.length cr, .int .i64 p.pat] 25 := by rw [hv0]; exact D0.other (by omega) _ _
  have E2 : Cells v0 (w.heap.size + 1 + 1) #[.slice a p.sends.length c, .slice a7 (p.routes.length + 1) c7, .int .i64 p.pat] 25 := by rw [hv0]; exact D2.set 1 _
  have oX : RoutesAt v0 a7 (withMore p mo).routes := by
    have h7 : OwnL 54 2 W0.heap.size v0 a7 c7 (p.routes.length + 1) (((p.routes.zip psR).flatMap fun x => routeV x.1 x.2) ++ routeV mo (al, ca)) := by
      rw [hv0, HnR.out]
      exact OwnL.setAt o7 D2 (by decide) 1 _
    exact routes_more h7 HlpR.out (fun q r pp h1 h2 => (HaslR.out q r pp h1 h2).below tv) (hm.below tv)
  rw [← hv0]
  clear hv0 o7 D0 D2 x1 xf lx p0 p1 p2 lp b7 b70 t7 t0 HaslR HnR hm
  replace hs := hs.below tv
  replace hr := hr.below tv
  have q0 := E0.cell 0
  have q1 := E0.cell 1
  have q2 := E0.cell 2
  have lB := E0.lt
  have u0 := E2.cell 0
  have u1 := E2.cell 1
  have u2 := E2.cell 2
  have lX := E2.lt
  simp at q0 q1 q2 u0 u1 u2
  clear E0 E2
  go_at_call 44
  refine (ready_eq a c ar cr p _ true HT hs hr HB.out).mono ?_
  rintro e v1 ⟨rfl, b1⟩
  have t1 : Below v0.heap.size v0 v1 := by (repeat (first | exact Below.refl _ _ | refine Below.alloc ?_ (by first | omega | (simp; done) | (simp; omega)) _ | refine Below.drew ?_ | refine Below.setCell ?_ (by first | omega | (simp; done) | (simp; omega)) _ | refine Below.trans ?_ (Below.mono (by assumption) (by first | omega | (simp; done) | (simp; omega)))))
  replace hs := hs.below t1
  replace hr := hr.below t1
  replace oX := oX.below t1
  replace q0 := below_cell t1 q0
  replace q1 := below_cell t1 q1
  replace q2 := below_cell t1 q2
  replace u0 := below_cell t1 u0
  replace u1 := below_cell t1 u1
  replace u2 := below_cell t1 u2
  replace lB := Nat.lt_of_lt_of_le lB t1.size
  replace lX := Nat.lt_of_lt_of_le lX t1.size
  go_wp2_with fail
  go_at_call 44
  refine (readyN_eq HNx HRx HPx false HTX hs oX HBX.out).mono ?_
  rintro e v2 ⟨rfl, b2⟩
  have j2 : Below v1.heap.size v1 v2 := by (repeat (first | exact Below.refl _ _ | refine Below.alloc ?_ (by first | omega | (simp; done) | (simp; omega)) _ | refine Below.drew ?_ | refine Below.setCell ?_ (by first | omega | (simp; done) | (simp; omega)) _ | refine Below.trans ?_ (Below.mono (by assumption) (by first | omega | (simp; done) | (simp; omega)))))
  have t2 : Below v0.heap.size v0 v2 := t1.trans (j2.mono t1.size)
  replace hs := hs.below j2
  replace hr := hr.below j2
  replace oX := oX.below j2
  replace q0 := below_cell j2 q0
  replace q1 := below_cell j2 q1
  replace q2 := below_cell j2 q2
  replace u0 := below_cell j2 u0
  replace u1 := below_cell j2 u1
  replace u2 := below_cell j2 u2
  replace lB := Nat.lt_of_lt_of_le lB j2.size
  replace lX := Nat.lt_of_lt_of_le lX j2.size
  go_wp2_with fail
  go_at_call 19
  refine (awake_any _).mono ?_
  rintro e v3 ⟨rfl, b3⟩
  have j3 : Below v2.heap.size v2 v3 := by (repeat (first | exact Below.refl _ _ | refine Below.alloc ?_ (by first | omega | (simp; done) | (simp; omega)) _ | refine Below.drew ?_ | refine Below.setCell ?_ (by first | omega | (simp; done) | (simp; omega)) _ | refine Below.trans ?_ (Below.mono (by assumption) (by first | omega | (simp; done) | (simp; omega)))))
  have t3 : Below v0.heap.size v0 v3 := t2.trans (j3.mono t2.size)
  replace hs := hs.below j3
  replace hr := hr.below j3
  replace oX := oX.below j3
  replace q0 := below_cell j3 q0
  replace q1 := below_cell j3 q1
  replace q2 := below_cell j3 q2
  replace u0 := below_cell j3 u0
  replace u1 := below_cell j3 u1
  replace u2 := below_cell j3 u2
  replace lB := Nat.lt_of_lt_of_le lB j3.size
  replace lX := Nat.lt_of_lt_of_le lX j3.size
  go_wp2_with fail
  go_ret
  exact ⟨rfl, tv.trans (t3.mono tv.size)⟩

set_option maxRecDepth 100000 in
set_option maxHeartbeats 8000000 in
theorem more_a3 (a : Option Addr) (c : Nat) (ar : Option Addr) (cr : Nat) (p : Post) (al : Option Addr) (ca : Nat) (mo : Route) (w : World) (hs : IntsAt w a p.sends) (hr : RoutesAt w ar p.routes) (na : a = none → c = 0) (big : PostBig p) (nr : ar = none → cr = 0) (hz : p.routes.length * 32 ≤ 140737488351232) (hm : LegsAt w al mo.legs) (bm : RouteBig mo) (hT : readyB p = true) (hTX : readyB (withMore p mo) = true) :
    Calls Try.prog 8 #[.agg #[.slice a p.sends.length c, .slice ar p.routes.length cr, .int .i64 p.pat], .agg #[.slice al mo.legs.length ca, .bool mo.lossy]] w fun e w' => e = .returned (.bool true) ∧ Below w.heap.size w w' := by

  have HB := Lib.hid big
  have HT := Lib.hid hT
  have HBX := Lib.hid (more_big big bm hz)
  have HNx : Hid ((withMore p mo).sends.length = p.sends.length) := Lib.hid rfl
  have HRx : Hid ((withMore p mo).routes.length = p.routes.length + 1) := Lib.hid (by simp [withMore])
  have HPx : Hid ((withMore p mo).pat = p.pat) := Lib.hid rfl
  obtain ⟨psR, lpR, srcR, aslR⟩ := routes_src hr
  obtain ⟨newsR, hnR⟩ : ∃ x, ((p.routes.zip psR).flatMap fun x => routeV x.1 x.2) = x := ⟨_, rfl⟩
  have lnR : newsR.length = p.routes.length * 2 := by rw [← hnR, ownL_len (E := 3) (val := routeV) routeV_len (by omega), lpR]
  have oneR : ∀ u ∈ newsR, u.oneCell' = true := by rw [← hnR]; exact routeV_one
  rw [hnR] at srcR
  have HnR := Lib.hid hnR
  have HaslR := Lib.hid aslR
  have HlpR := Lib.hid lpR
  have har : ar = none → p.routes.length = 0 ∧ cr = 0 := fun h => by
    refine ⟨?_, nr h⟩
    subst h
    rcases Nat.eq_zero_or_pos p.routes.length with e | e
    · exact e
    · obtain ⟨b, off, _, _, hc, _⟩ := hr 0 e
      cases hc
  clear hT big bm hnR aslR lpR
  have HTX := Lib.hid hTX
  clear hTX
  have SM := Lib.hid (ready_small HT.out).1
  have HE := Lib.hid (ready_small HT.out).2
  have SX := Lib.hid (ready_small HTX.out).1
  have HX := Lib.hid (ready_small HTX.out).2
  have lS : p.sends.length ≤ 1000 := SM.out.1
  have lR : p.routes.length ≤ 1000 := SM.out.2
  have hlen : (spansOut p).length = p.sends.length := by unfold spansOut; rw [if_pos HE.out]; exact spansF_len p _
  have hms := more_spans HE.out HX.out
  have hin := more_inside HE.out HX.out
  have hsl : (sureOut p).length ≤ p.sends.length := by unfold sureOut; rw [if_pos HE.out]; exact sureF_len p _
  have hsl2 : (sureOut (withMore p mo)).length ≤ p.sends.length := by unfold sureOut; rw [if_pos HX.out]; exact sureF_len (withMore p mo) _
  obtain ⟨A, hA⟩ : ∃ x, spansOut p = x := ⟨_, rfl⟩
  obtain ⟨B, hB⟩ : ∃ x, spansOut (withMore p mo) = x := ⟨_, rfl⟩
  obtain ⟨L, hL⟩ : ∃ x, sureOut p = x := ⟨_, rfl⟩
  obtain ⟨M, hM⟩ : ∃ x, sureOut (withMore p mo) = x := ⟨_, rfl⟩
  rw [hA] at hlen
  rw [hA, hB] at hms
  rw [hL, hM] at hin
  rw [hL] at hsl
  rw [hM] at hsl2
  have hlen2 : B.length = p.sends.length := by rw [hms.1, hlen]
  obtain ⟨nl, hnl⟩ : ∃ x, L.length = x := ⟨_, rfl⟩
  obtain ⟨nm, hnm⟩ : ∃ x, M.length = x := ⟨_, rfl⟩
  rw [hnl] at hsl
  rw [hnm] at hsl2
  have HA := Lib.hid hA
  have HBB := Lib.hid hB
  have HL := Lib.hid hL
  have HM := Lib.hid hM
  have HnA := Lib.hid hlen
  have HnB := Lib.hid hlen2
  have Hnl := Lib.hid hnl
  have Hnm := Lib.hid hnm
  have Hin := Lib.hid hin
  have Hle := Lib.hid hms.2
  clear hlen hms hin hA hB hL hM hlen2 hnl hnm
  go_enter Try.func8, Try.ntmps8
  go_wp2_with fail
  obtain ⟨W0, hW0⟩ : ∃ z : World, z = ((w.alloc (.cells #[.slice a p.sends.length c, .slice ar p.routes.length cr, .int .i64 p.pat] 25)).alloc (.cells #[.slice al mo.legs.length ca, .bool mo.lossy] 54)).alloc (.cells #[.slice a p.sends.length c, .slice ar p.routes.length cr, .int .i64 p.pat] 25) := ⟨_, rfl⟩
  have t0 : Below w.heap.size w W0 := by rw [hW0]; (repeat (first | exact Below.refl _ _ | refine Below.alloc ?_ (by first | omega | (simp; done) | (simp; omega)) _ | refine Below.drew ?_ | refine Below.setCell ?_ (by first | omega | (simp; done) | (simp; omega)) _ | refine Below.trans ?_ (Below.mono (by assumption) (by first | omega | (simp; done) | (simp; omega)))))
  have C0 : Cells W0 w.heap.size #[.slice a p.sends.length c, .slice ar p.routes.length cr, .int .i64 p.pat] 25 := by rw [hW0]; exact ((Cells.new _ _ _).alloc _).alloc _
  have C1 : Cells W0 (w.heap.size + 1) #[.slice al mo.legs.length ca, .bool mo.lossy] 54 := by rw [hW0]; exact (Cells.new' _ _ _ _ (by simp)).alloc _
  have C2 : Cells W0 (w.heap.size + 1 + 1) #[.slice a p.sends.length c, .slice ar p.routes.length cr, .int .i64 p.pat] 25 := by rw [hW0]; exact Cells.new' _ _ _ _ (by simp)
  rw [← hW0]
  clear hW0
  have k1 := C0.cell 1
  have m0 := C1.cell 0
  have m1 := C1.cell 1
  have l0 := C0.lt
  have l1 := C1.lt
  have l2 := C2.lt
  simp at k1 m0 m1
  have srcR' := srcR.below t0
  (refine wp_region_seq 6 [] [6, 7, 8] 115 [false, true, true, false, true, false] [LitV W0.heap.size 0 #[] 54, OwnV 54 2 W0.heap.size p.routes.length newsR, LitV W0.heap.size 1 #[.slice al mo.legs.length ca, .bool mo.lossy] 54] (by kernel_rfl) (by kernel_rfl) rfl (mono_cons (fun v w w' h hb => h.kept hb) (mono_cons (fun v w w' h hb => h.kept hb) (mono_cons (fun v w w' h hb => h.kept hb) mono_nil))) ?_; simp only [pickOps, List.filterMap_cons, List.filterMap_nil, List.getElem?_toArray, List.getElem?_cons_succ, List.getElem?_cons_zero]; (repeat (refine wpFl_step _ rfl (fun w => (by go_simp; rfl)) ?_)); refine wpFl_nil ?_; simp only [maskOps, dummy, Act.put, List.setIfInBounds_toArray, List.set_cons_zero, List.set_cons_succ, List.take_succ_cons, List.take_zero, List.drop_succ_cons, List.drop_zero]; (repeat (refine wpQB_step (fun K hK => ?_); go_simp; first | (refine hK _ ?_; clear hK K) | (apply Exists.intro; refine ⟨fun ex => ?_, hK _ ?_⟩; (fail); clear hK K))); refine wpQB_nil ?_; simp only [relObl2, under, relEnd, and_true, List.nil_append, List.cons_append])
  refine ⟨⟨fun e => ?_, fun e v1 h1 => ?_, fun e v1 h1 v2 h2 => ?_⟩, fun e => ?_⟩
  · go_simp
    exact ⟨(Below.refl _ _).alloc (Nat.le_refl _) _, e.to.heap.size, rfl, e.size, Cells.new _ _ _⟩
  · obtain ⟨g, rfl, hg, hc⟩ := h1 (by kernel_rfl)
    exact gives_app0 el_rroutes e.to W0.heap.size g _ _ rfl rfl hc hg ar p.routes.length cr newsR rfl har lnR (srcR'.below e.below) (by unfold maxLen; omega) (by omega)
  · go_simp
    exact ⟨(Below.refl _ _).alloc (Nat.le_refl _) _, e.to.heap.size, rfl, e.size, Cells.new _ _ _⟩
  rintro v1 - v2 ⟨a2, c2, rfl, o2⟩ v3 ⟨g3, rfl, hg3, hc3⟩
  simp only [Act.put, List.setIfInBounds_toArray, List.set_cons_zero, List.set_cons_succ]
  have heb := e.below
  obtain ⟨x2, hx2⟩ : ∃ x : World, x = e.to := ⟨_, rfl⟩
  rw [← hx2] at heb hc3 o2 ⊢
  clear hx2 e
  have hez := heb.size
  refine wpList_app el_rroutes rfl _ _ rfl W0.heap.size a2 p.routes.length c2 _ rfl o2 (some ⟨g3, 0, none⟩) 1 1 [.slice al mo.legs.length ca, .bool mo.lossy] rfl (fun h => by cases h) rfl hc3.src (fun u hu => by simp at hu; rcases hu with rfl | rfl <;> rfl) (by unfold maxLen; omega) (by omega) (by omega) ?_
  intro a7 c7 w7 o7 b7
  have b70 := heb.trans b7
  have t7 := t0.trans (b70.mono t0.size)
  have D0 := C0.below b70
  have D2 := C2.below b70
  have x1 := D2.cell 1
  have xf := D2.frozen 1
  have lx := D2.lt
  have p0 := D0.cell 0
  have p1 := D0.cell 1
  have p2 := D0.cell 2
  have lp := D0.lt
  simp at x1 p0 p1 p2
  clear k1 m0 m1 l0 l1 l2 srcR srcR' C0 C1 C2 heb hez hc3 hg3 o2
  go_wp2_with fail
  obtain ⟨v0, hv0⟩ : ∃ z : World, z = w7.setCell ⟨w.heap.size + 1 + 1, 1, none⟩ (.slice a7 (p.routes.length + 1) c7) := ⟨_, rfl⟩
  have tv : Below w.heap.size w v0 := by rw [hv0]; exact t7.setCell (p := ⟨w.heap.size + 1 + 1, 1, none⟩) (by show w.heap.size ≤ w.heap.size + 1 + 1; omega) _
  have E0 : Cells v0 w.heap.size #[.slice a p.sends.length c, .slice ar p.routes.length cr, .int .i64 p.pat] 25 := by rw [hv0]; exact D0.other (by omega) _ _
  have E2 : Cells v0 (w.heap.size + 1 + 1) #[.slice a p.sends.length c, .slice a7 (p.routes.length + 1) c7, .int .i64 p.pat] 25 := by rw [hv0]; exact D2.set 1 _
  have oX : RoutesAt v0 a7 (withMore p mo).routes := by
    have h7 : OwnL 54 2 W0.heap.size v0 a7 c7 (p.routes.length + 1) (((p.routes.zip psR).flatMap fun x => routeV x.1 x.2) ++ routeV mo (al, ca)) := by
      rw [hv0, HnR.out]
      exact OwnL.setAt o7 D2 (by decide) 1 _
    exact routes_more h7 HlpR.out (fun q r pp h1 h2 => (HaslR.out q r pp h1 h2).below tv) (hm.below tv)
  rw [← hv0]
  clear hv0 o7 D0 D2 x1 xf lx p0 p1 p2 lp b7 b70 t7 t0 HaslR HnR hm
  replace hs := hs.below tv
  replace hr := hr.below tv
  have q0 := E0.cell 0
  have q1 := E0.cell 1
  have q2 := E0.cell 2
  have lB := E0.lt
  have u0 := E2.cell 0
  have u1 := E2.cell 1
  have u2 := E2.cell 2
  have lX := E2.lt
  simp at q0 q1 q2 u0 u1 u2
  clear E0 E2
  go_at_call 44
  refine (ready_eq a c ar cr p _ true HT hs hr HB.out).mono ?_
  rintro e v1 ⟨rfl, b1⟩
  have t1 : Below v0.heap.size v0 v1 := by (repeat (first | exact Below.refl _ _ | refine Below.alloc ?_ (by first | omega | (simp; done) | (simp; omega)) _ | refine Below.drew ?_ | refine Below.setCell ?_ (by first | omega | (simp; done) | (simp; omega)) _ | refine Below.trans ?_ (Below.mono (by assumption) (by first | omega | (simp; done) | (simp; omega)))))
  replace hs := hs.below t1
  replace hr := hr.below t1
  replace oX := oX.below t1
  replace q0 := below_cell t1 q0
  replace q1 := below_cell t1 q1
  replace q2 := below_cell t1 q2
  replace u0 := below_cell t1 u0
  replace u1 := below_cell t1 u1
  replace u2 := below_cell t1 u2
  replace lB := Nat.lt_of_lt_of_le lB t1.size
  replace lX := Nat.lt_of_lt_of_le lX t1.size
  go_wp2_with fail
  go_at_call 44
  refine (readyN_eq HNx HRx HPx true HTX hs oX HBX.out).mono ?_
  rintro e v2 ⟨rfl, b2⟩
  have j2 : Below v1.heap.size v1 v2 := by (repeat (first | exact Below.refl _ _ | refine Below.alloc ?_ (by first | omega | (simp; done) | (simp; omega)) _ | refine Below.drew ?_ | refine Below.setCell ?_ (by first | omega | (simp; done) | (simp; omega)) _ | refine Below.trans ?_ (Below.mono (by assumption) (by first | omega | (simp; done) | (simp; omega)))))
  have t2 : Below v0.heap.size v0 v2 := t1.trans (j2.mono t1.size)
  replace hs := hs.below j2
  replace hr := hr.below j2
  replace oX := oX.below j2
  replace q0 := below_cell j2 q0
  replace q1 := below_cell j2 q1
  replace q2 := below_cell j2 q2
  replace u0 := below_cell j2 u0
  replace u1 := below_cell j2 u1
  replace u2 := below_cell j2 u2
  replace lB := Nat.lt_of_lt_of_le lB j2.size
  replace lX := Nat.lt_of_lt_of_le lX j2.size
  go_wp2_with fail
  go_at_call 21
  refine (post_eq a c ar cr p _ hs hr SM na).mono ?_
  rintro e v3 ⟨⟨a15, c15, r15, d15, rfl, s15, o15⟩, b3⟩
  have j3 : Below v2.heap.size v2 v3 := by (repeat (first | exact Below.refl _ _ | refine Below.alloc ?_ (by first | omega | (simp; done) | (simp; omega)) _ | refine Below.drew ?_ | refine Below.setCell ?_ (by first | omega | (simp; done) | (simp; omega)) _ | refine Below.trans ?_ (Below.mono (by assumption) (by first | omega | (simp; done) | (simp; omega)))))
  have t3 : Below v0.heap.size v0 v3 := t2.trans (j3.mono t2.size)
  replace hs := hs.below j3
  replace hr := hr.below j3
  replace oX := oX.below j3
  replace q0 := below_cell j3 q0
  replace q1 := below_cell j3 q1
  replace q2 := below_cell j3 q2
  replace u0 := below_cell j3 u0
  replace u1 := below_cell j3 u1
  replace u2 := below_cell j3 u2
  replace lB := Nat.lt_of_lt_of_le lB j3.size
  replace lX := Nat.lt_of_lt_of_le lX j3.size
  go_wp2_with fail
  go_at_call 32
  refine (spans_eq a15 c15 r15 d15 p _ 0 A p.sends.length HE HA HnA s15 o15 SM).mono ?_
  rintro e v4 ⟨⟨e15, f15, rfl, i15⟩, b4⟩
  have j4 : Below v3.heap.size v3 v4 := by (repeat (first | exact Below.refl _ _ | refine Below.alloc ?_ (by first | omega | (simp; done) | (simp; omega)) _ | refine Below.drew ?_ | refine Below.setCell ?_ (by first | omega | (simp; done) | (simp; omega)) _ | refine Below.trans ?_ (Below.mono (by assumption) (by first | omega | (simp; done) | (simp; omega)))))
  have t4 : Below v0.heap.size v0 v4 := t3.trans (j4.mono t3.size)
  replace hs := hs.below j4
  replace hr := hr.below j4
  replace oX := oX.below j4
  replace q0 := below_cell j4 q0
  replace q1 := below_cell j4 q1
  replace q2 := below_cell j4 q2
  replace u0 := below_cell j4 u0
  replace u1 := below_cell j4 u1
  replace u2 := below_cell j4 u2
  replace lB := Nat.lt_of_lt_of_le lB j4.size
  replace lX := Nat.lt_of_lt_of_le lX j4.size
  replace s15 := s15.below j4
  replace o15 := o15.below j4
  clear s15 o15
  go_wp2_with fail
  go_at_call 21
  refine (postN_eq HNx HRx HPx hs oX SX na).mono ?_
  rintro e v5 ⟨⟨a16, c16, r16, d16, rfl, s16, o16⟩, b5⟩
  have j5 : Below v4.heap.size v4 v5 := by (repeat (first | exact Below.refl _ _ | refine Below.alloc ?_ (by first | omega | (simp; done) | (simp; omega)) _ | refine Below.drew ?_ | refine Below.setCell ?_ (by first | omega | (simp; done) | (simp; omega)) _ | refine Below.trans ?_ (Below.mono (by assumption) (by first | omega | (simp; done) | (simp; omega)))))
  have t5 : Below v0.heap.size v0 v5 := t4.trans (j5.mono t4.size)
  replace hs := hs.below j5
  replace hr := hr.below j5
  replace oX := oX.below j5
  replace q0 := below_cell j5 q0
  replace q1 := below_cell j5 q1
  replace q2 := below_cell j5 q2
  replace u0 := below_cell j5 u0
  replace u1 := below_cell j5 u1
  replace u2 := below_cell j5 u2
  replace lB := Nat.lt_of_lt_of_le lB j5.size
  replace lX := Nat.lt_of_lt_of_le lX j5.size
  replace i15 := i15.below j5
  go_wp2_with fail
  go_at_call 32
  refine (spansN_eq (a := a16) (c := c16) (ar := r16) (cr := d16) HNx HRx HPx 0 B p.sends.length HX HBB HnB s16 o16 SX).mono ?_
  rintro e v6 ⟨⟨e16, f16, rfl, i16⟩, b6⟩
  have j6 : Below v5.heap.size v5 v6 := by (repeat (first | exact Below.refl _ _ | refine Below.alloc ?_ (by first | omega | (simp; done) | (simp; omega)) _ | refine Below.drew ?_ | refine Below.setCell ?_ (by first | omega | (simp; done) | (simp; omega)) _ | refine Below.trans ?_ (Below.mono (by assumption) (by first | omega | (simp; done) | (simp; omega)))))
  have t6 : Below v0.heap.size v0 v6 := t5.trans (j6.mono t5.size)
  replace hs := hs.below j6
  replace hr := hr.below j6
  replace oX := oX.below j6
  replace q0 := below_cell j6 q0
  replace q1 := below_cell j6 q1
  replace q2 := below_cell j6 q2
  replace u0 := below_cell j6 u0
  replace u1 := below_cell j6 u1
  replace u2 := below_cell j6 u2
  replace lB := Nat.lt_of_lt_of_le lB j6.size
  replace lX := Nat.lt_of_lt_of_le lX j6.size
  replace i15 := i15.below j6
  replace s16 := s16.below j6
  replace o16 := o16.below j6
  clear s16 o16
  go_wp2_with fail
  go_at_call 21
  refine (post_eq a c ar cr p _ hs hr SM na).mono ?_
  rintro e v7 ⟨⟨a17, c17, r17, d17, rfl, s17, o17⟩, b7⟩
  have j7 : Below v6.heap.size v6 v7 := by (repeat (first | exact Below.refl _ _ | refine Below.alloc ?_ (by first | omega | (simp; done) | (simp; omega)) _ | refine Below.drew ?_ | refine Below.setCell ?_ (by first | omega | (simp; done) | (simp; omega)) _ | refine Below.trans ?_ (Below.mono (by assumption) (by first | omega | (simp; done) | (simp; omega)))))
  have t7 : Below v0.heap.size v0 v7 := t6.trans (j7.mono t6.size)
  replace hs := hs.below j7
  replace hr := hr.below j7
  replace oX := oX.below j7
  replace q0 := below_cell j7 q0
  replace q1 := below_cell j7 q1
  replace q2 := below_cell j7 q2
  replace u0 := below_cell j7 u0
  replace u1 := below_cell j7 u1
  replace u2 := below_cell j7 u2
  replace lB := Nat.lt_of_lt_of_le lB j7.size
  replace lX := Nat.lt_of_lt_of_le lX j7.size
  replace i15 := i15.below j7
  replace i16 := i16.below j7
  go_wp2_with fail
  go_at_call 33
  refine (sure_eq a17 c17 r17 d17 p _ 0 L nl HE HL Hnl s17 o17 SM).mono ?_
  rintro e v8 ⟨⟨e17, f17, rfl, i17⟩, b8⟩
  have j8 : Below v7.heap.size v7 v8 := by (repeat (first | exact Below.refl _ _ | refine Below.alloc ?_ (by first | omega | (simp; done) | (simp; omega)) _ | refine Below.drew ?_ | refine Below.setCell ?_ (by first | omega | (simp; done) | (simp; omega)) _ | refine Below.trans ?_ (Below.mono (by assumption) (by first | omega | (simp; done) | (simp; omega)))))
  have t8 : Below v0.heap.size v0 v8 := t7.trans (j8.mono t7.size)
  replace hs := hs.below j8
  replace hr := hr.below j8
  replace oX := oX.below j8
  replace q0 := below_cell j8 q0
  replace q1 := below_cell j8 q1
  replace q2 := below_cell j8 q2
  replace u0 := below_cell j8 u0
  replace u1 := below_cell j8 u1
  replace u2 := below_cell j8 u2
  replace lB := Nat.lt_of_lt_of_le lB j8.size
  replace lX := Nat.lt_of_lt_of_le lX j8.size
  replace i15 := i15.below j8
  replace i16 := i16.below j8
  replace s17 := s17.below j8
  replace o17 := o17.below j8
  clear s17 o17
  go_wp2_with fail
  go_at_call 21
  refine (postN_eq HNx HRx HPx hs oX SX na).mono ?_
  rintro e v9 ⟨⟨a18, c18, r18, d18, rfl, s18, o18⟩, b9⟩
  have j9 : Below v8.heap.size v8 v9 := by (repeat (first | exact Below.refl _ _ | refine Below.alloc ?_ (by first | omega | (simp; done) | (simp; omega)) _ | refine Below.drew ?_ | refine Below.setCell ?_ (by first | omega | (simp; done) | (simp; omega)) _ | refine Below.trans ?_ (Below.mono (by assumption) (by first | omega | (simp; done) | (simp; omega)))))
  have t9 : Below v0.heap.size v0 v9 := t8.trans (j9.mono t8.size)
  replace hs := hs.below j9
  replace hr := hr.below j9
  replace oX := oX.below j9
  replace q0 := below_cell j9 q0
  replace q1 := below_cell j9 q1
  replace q2 := below_cell j9 q2
  replace u0 := below_cell j9 u0
  replace u1 := below_cell j9 u1
  replace u2 := below_cell j9 u2
  replace lB := Nat.lt_of_lt_of_le lB j9.size
  replace lX := Nat.lt_of_lt_of_le lX j9.size
  replace i15 := i15.below j9
  replace i16 := i16.below j9
  replace i17 := i17.below j9
  go_wp2_with fail
  go_at_call 33
  refine (sureN_eq (a := a18) (c := c18) (ar := r18) (cr := d18) HNx HRx HPx 0 M nm HX HM Hnm s18 o18 SX).mono ?_
  rintro e v10 ⟨⟨e18, f18, rfl, i18⟩, b10⟩
  have j10 : Below v9.heap.size v9 v10 := by (repeat (first | exact Below.refl _ _ | refine Below.alloc ?_ (by first | omega | (simp; done) | (simp; omega)) _ | refine Below.drew ?_ | refine Below.setCell ?_ (by first | omega | (simp; done) | (simp; omega)) _ | refine Below.trans ?_ (Below.mono (by assumption) (by first | omega | (simp; done) | (simp; omega)))))
  have t10 : Below v0.heap.size v0 v10 := t9.trans (j10.mono t9.size)
  replace hs := hs.below j10
  replace hr := hr.below j10
  replace oX := oX.below j10
  replace q0 := below_cell j10 q0
  replace q1 := below_cell j10 q1
  replace q2 := below_cell j10 q2
  replace u0 := below_cell j10 u0
  replace u1 := below_cell j10 u1
  replace u2 := below_cell j10 u2
  replace lB := Nat.lt_of_lt_of_le lB j10.size
  replace lX := Nat.lt_of_lt_of_le lX j10.size
  replace i15 := i15.below j10
  replace i16 := i16.below j10
  replace i17 := i17.below j10
  replace s18 := s18.below j10
  replace o18 := o18.below j10
  clear s18 o18
  go_wp2_with fail
  go_at_call 45
  refine (inside_eq e17 L nl f17 Hnl e18 M nm f18 Hnm Hin _ i17 i18 (by omega) (by omega)).mono ?_
  rintro e v11 ⟨rfl, b11⟩
  have j11 : Below v10.heap.size v10 v11 := by (repeat (first | exact Below.refl _ _ | refine Below.alloc ?_ (by first | omega | (simp; done) | (simp; omega)) _ | refine Below.drew ?_ | refine Below.setCell ?_ (by first | omega | (simp; done) | (simp; omega)) _ | refine Below.trans ?_ (Below.mono (by assumption) (by first | omega | (simp; done) | (simp; omega)))))
  have t11 : Below v0.heap.size v0 v11 := t10.trans (j11.mono t10.size)
  replace hs := hs.below j11
  replace hr := hr.below j11
  replace oX := oX.below j11
  replace q0 := below_cell j11 q0
  replace q1 := below_cell j11 q1
  replace q2 := below_cell j11 q2
  replace u0 := below_cell j11 u0
  replace u1 := below_cell j11 u1
  replace u2 := below_cell j11 u2
  replace lB := Nat.lt_of_lt_of_le lB j11.size
  replace lX := Nat.lt_of_lt_of_le lX j11.size
  replace i15 := i15.below j11
  replace i16 := i16.below j11
  replace i17 := i17.below j11
  replace i18 := i18.below j11
  go_wp2_with fail
  go_loopw [14] (fun u wr => ∃ k : Nat, k ≤ p.sends.length ∧ u = .int .i64 k ∧ Below v11.heap.size v11 wr) (fun u _ => p.sends.length - (intOf u).toNat)
  case atStart => exact ⟨0, Nat.zero_le _, rfl, Below.refl _ _⟩
  case round =>
    obtain ⟨k, hk, rfl, hb6⟩ := hrel
    have z6 := hb6.size
    by_cases hkl : k < p.sends.length
    · have hkI : (k : Int) < (p.sends.length : Int) := by omega
      have hkA : k < A.length := by rw [HnA.out]; exact hkl
      have hkB : k < B.length := by rw [HnB.out]; exact hkl
      obtain ⟨g1, off1, rfl, hg1, y0, y1⟩ := (i15.below hb6) k hkA
      obtain ⟨g2, off2, rfl, hg2, z0, z1⟩ := (i16.below hb6) k hkB
      have hle := Hle.out k hkA hkB
      obtain ⟨⟨s0, s1⟩, hs1⟩ : ∃ x, A[k] = x := ⟨_, rfl⟩
      obtain ⟨⟨r0, r1⟩, hr1⟩ : ∃ x, B[k] = x := ⟨_, rfl⟩
      rw [hs1] at y0 y1 hle
      rw [hr1] at z0 z1 hle
      simp only at y0 y1 z0 z1 hle
      have n0 : ¬ (s0 < r0) := by omega
      have n1 : ¬ (s1 < r1) := by omega
      have d0 : decide (s0 < r0) = false := decide_eq_false n0
      have d1 : decide (s1 < r1) = false := decide_eq_false n1
      clear hs1 hr1 hkA hkB hle
      go_wp2
      (refine wp_region_ext 24 (by kernel_rfl) (by kernel_rfl) ?_; simp only [List.take_succ_cons, List.take_zero, List.drop_succ_cons, List.drop_zero]; (repeat (go_big_quiet_step ((fail)))); refine wpQuiet_nil ?_; rintro _ ⟨ex, rfl⟩; have hex := ex.below; have hexz := ex.size; (try simp at hexz); (try (have hy0 : w.heap.size < ex.to.heap.size := by omega)); (try (have hy1 : w.heap.size + 1 < ex.to.heap.size := by omega)); (try (have hy2 : w.heap.size + 2 < ex.to.heap.size := by omega)))
      go_wp2
      go_roundw
      case rel => exact ⟨k + 1, by omega, by go_num, hb6.trans (ex.below.mono z6)⟩
      case measure => simp [intOf]; omega
    · have hkI : ¬ ((k : Int) < (p.sends.length : Int)) := by omega
      go_wp2_with fail
      go_at_call 19
      refine (awake_any _).mono ?_
      rintro e x3 ⟨rfl, b3⟩
      go_wp2_with fail
      go_ret
      have y1 := t11.trans (hb6.mono t11.size)
      exact ⟨rfl, tv.trans ((y1.trans (b3.mono y1.size)).mono tv.size)⟩

theorem more_walk (a : Option Addr) (c : Nat) (ar : Option Addr) (cr : Nat) (p : Post) (al : Option Addr) (ca : Nat) (mo : Route) (w : World) (hs : IntsAt w a p.sends) (hr : RoutesAt w ar p.routes) (na : a = none → c = 0) (big : PostBig p) (nr : ar = none → cr = 0) (hz : p.routes.length * 32 ≤ 140737488351232) (hm : LegsAt w al mo.legs) (bm : RouteBig mo) :
    Calls Try.prog 8 #[.agg #[.slice a p.sends.length c, .slice ar p.routes.length cr, .int .i64 p.pat], .agg #[.slice al mo.legs.length ca, .bool mo.lossy]] w fun e w' => e = .returned (.bool true) ∧ Below w.heap.size w w' := by
  cases hT : readyB p
  · exact more_a1 a c ar cr p al ca mo w hs hr na big nr hz hm bm hT
  · cases hX : readyB (withMore p mo)
    · exact more_a2 a c ar cr p al ca mo w hs hr na big nr hz hm bm hT hX
    · exact more_a3 a c ar cr p al ca mo w hs hr na big nr hz hm bm hT hX
end Go.Proofs.Ytfclemnkcpadpaa
