/- CipherLost: the walk -/
import Derived.Test.YtmplgcefhpobgaaLg
import Derived.Test.YtmplgcefhpobgaaAp
import Derived.Test.YtmplgcefhpobgaaMe
namespace Go.Proofs.Ytmplgcefhpobgaa
set_option linter.unusedVariables false
set_option linter.unusedSimpArgs false
set_option linter.unnecessarySimpa false
open Go.RowKit Go.Flow

theorem info_rlosses : (Try.prog.info? 58).map (fun i => (i.zero, i.size, i.bytes)) = some (some (.agg #[.int .i64 0, .int .i64 0]), 2, 16) := by kernel_rfl
theorem el_rlosses : Elem Try.prog 47 58 (.agg #[.int .i64 0, .int .i64 0]) 2 16 := ⟨Try.underlying47, info_parts info_rlosses, rfl, by decide⟩
theorem Recs2At.none0 {w : World} {a : Option Addr} {xs : List (Int × Int)} (h : Recs2At w a xs) (ha : a = none) : xs.length = 0 := by
  subst ha
  cases xs with
  | nil => rfl
  | cons x l => obtain ⟨b, off, e, _⟩ := h 0 (by simp); cases e
theorem BookAt.newB (w : World) (s wo : Int) (ak : Option Addr) (nk ck : Nat) (ad : Option Addr) (nd cd : Nat) (T : TypeId) {w' : World} (h : Below (w.heap.size + 1) (w.alloc (.cells #[.int .i64 s, .int .i64 wo, .slice ak nk ck, .slice ad nd cd] T)) w') :
    BookAt w' w.heap.size s wo ak nk ck ad nd cd := BookAt.of (h.mono (by simp))

set_option maxRecDepth 100000 in
set_option maxHeartbeats 4000000 in
theorem lost_a (s wo : Int) (ak : Option Addr) (ks : List (Int × Int × Int)) (ck : Nat) (ad : Option Addr) (ds : List Int) (cd : Nat) (ap : Option Addr) (lost : List (Int × Int)) (cp : Nat) (x y : Int) (A A1 : Nat) (w : World) (hk : Recs3At w ak ks) (hd : IntsAt w ad ds) (nd : ad = none → cd = 0) (hp : Recs2At w ap lost) (np : ap = none → cp = 0) (lp : lost.length ≤ 8796093021952) (hA : A ≤ 255) (hA1 : A1 ≤ 255) (hR : lossedB s wo ks ds lost = false) :
    Calls Try.prog 9 #[.agg #[.int .i64 s, .int .i64 wo, .slice ak ks.length ck, .slice ad ds.length cd], .slice ap lost.length cp, .agg #[.int .i64 x, .int .i64 y], .int .u8 A, .int .u8 A1] w fun e w' => e = .returned (.bool true) ∧ Below w.heap.size w w' := by

  have HR := Lib.hid hR
  clear hR
  obtain ⟨X, hX⟩ : ∃ X, lost ++ [(x, y)] = X := ⟨_, rfl⟩
  have hXl : lost.length + 1 = X.length := by rw [← hX]; simp
  have HX := Lib.hid hX
  have HXl := Lib.hid hXl
  clear hX hXl
  go_enter Try.func9, Try.ntmps9
  go_wp2_with fail
  obtain ⟨W0, hW0⟩ : ∃ z : World, z = (w.alloc (.cells #[.int .i64 s, .int .i64 wo, .slice ak ks.length ck, .slice ad ds.length cd] 25)).alloc (.cells #[.int .i64 x, .int .i64 y] 58) := ⟨_, rfl⟩
  have t0 : Below w.heap.size w W0 := by rw [hW0]; (repeat (first | exact Below.refl _ _ | refine Below.alloc ?_ (by first | omega | (simp; done) | (simp; omega)) _ | refine Below.drew ?_ | refine Below.setCell ?_ (by first | omega | (simp; done) | (simp; omega)) _ | refine Below.trans ?_ (Below.mono (by assumption) (by first | omega | (simp; done) | (simp; omega)))))
  have z0 : W0.heap.size = w.heap.size + 1 + 1 := by rw [hW0]; simp
  obtain ⟨q0, q1, q2, q3⟩ : BookAt W0 w.heap.size s wo ak ks.length ck ad ds.length cd := by rw [hW0]; exact (BookAt.new w s wo ak ks.length ck ad ds.length cd 25).below ((Below.refl _ _).alloc (Nat.le_refl _) _)
  have cM : Cells W0 (w.heap.size + 1) #[.int .i64 x, .int .i64 y] 58 := by
    rw [hW0]
    have := Cells.new (w.alloc (.cells #[.int .i64 s, .int .i64 wo, .slice ak ks.length ck, .slice ad ds.length cd] 25)) #[.int .i64 x, .int .i64 y] 58
    rwa [show (w.alloc (.cells #[.int .i64 s, .int .i64 wo, .slice ak ks.length ck, .slice ad ds.length cd] 25)).heap.size = w.heap.size + 1 by simp] at this
  have m0 := cM.cell 0
  have m1 := cM.cell 1
  simp at m0 m1
  rw [← hW0]
  clear hW0 cM
  have lB := cell_lt q0
  simp only at lB
  replace hk := hk.below t0
  replace hd := hd.below t0
  replace hp := hp.below t0
  have B0 : w.heap.size ≤ W0.heap.size := by omega
  (refine wp_region_seq 5 [] [5, 6] 209 [false, true, false, true, false] [LitV W0.heap.size 0 #[] 58, OwnV 58 2 W0.heap.size lost.length (flat2 lost), LitV W0.heap.size 1 #[.int .i64 x, .int .i64 y] 58] (by kernel_rfl) (by kernel_rfl) rfl (mono_cons (fun v w w' h hb => h.kept hb) (mono_cons (fun v w w' h hb => h.kept hb) (mono_cons (fun v w w' h hb => h.kept hb) mono_nil))) ?_; simp only [pickOps, List.filterMap_cons, List.filterMap_nil, List.getElem?_toArray, List.getElem?_cons_succ, List.getElem?_cons_zero]; (repeat (refine wpFl_step _ rfl (fun w => (by go_simp; rfl)) ?_)); refine wpFl_nil ?_; simp only [maskOps, dummy, Act.put, List.setIfInBounds_toArray, List.set_cons_zero, List.set_cons_succ, List.take_succ_cons, List.take_zero, List.drop_succ_cons, List.drop_zero]; (repeat (refine wpQB_step (fun K hK => ?_); go_simp; first | (refine hK _ ?_; clear hK K) | (apply Exists.intro; refine ⟨fun ex => ?_, hK _ ?_⟩; (fail); clear hK K))); refine wpQB_nil ?_; simp only [relObl2, under, relEnd, and_true, List.nil_append, List.cons_append])
  refine ⟨⟨fun e => ?_, fun e v1 h1 => ?_, fun e v1 h1 v2 h2 => ?_⟩, fun e => ?_⟩
  · go_simp
    exact ⟨(Below.refl _ _).alloc (Nat.le_refl _) _, e.to.heap.size, rfl, by have := e.size; omega, Cells.new _ _ _⟩
  · obtain ⟨g, rfl, hg, hc⟩ := h1 (by kernel_rfl)
    exact gives_app0 el_rlosses e.to W0.heap.size g _ _ rfl rfl hc hg ap lost.length cp (flat2 lost) rfl (fun h => ⟨hp.none0 h, np h⟩) (flat2_len lost) (SrcAt.recs2 (hp.below e.below)) (by unfold maxLen; omega) (by omega)
  · go_simp
    exact ⟨(Below.refl _ _).alloc (Nat.le_refl _) _, e.to.heap.size, rfl, by have := e.size; omega, Cells.new _ _ _⟩
  rintro v1 _ v2 ⟨a2, c2, rfl, o2⟩ v3 ⟨g3, rfl, hg3, hc3⟩
  simp only [Act.put, List.setIfInBounds_toArray, List.set_cons_zero, List.set_cons_succ]
  have heb := e.below
  have hez := e.size
  obtain ⟨x2, hx2⟩ : ∃ x : World, x = e.to := ⟨_, rfl⟩
  rw [← hx2] at heb hez hc3 o2 ⊢
  clear hx2
  refine wpList_app el_rlosses rfl _ _ rfl W0.heap.size a2 lost.length c2 _ rfl o2 (some ⟨g3, 0, none⟩) 1 1 _ rfl (fun h => by cases h) rfl hc3.src (fun u hu => by simp at hu; rcases hu with rfl | rfl <;> rfl) (by unfold maxLen; omega) (by omega) (by omega) ?_
  intro a7 c7 w1 o7 b7
  have iX : Recs2At w1 a7 X := by
    have := OwnL.recs2 (xs := lost ++ [(x, y)]) (by rw [flat2_snoc]; exact o7)
    rwa [HX.out] at this
  have nX : a7 = none → c7 = 0 := fun h => by subst h; exact o7.isnil.2
  have jW : Below W0.heap.size W0 w1 := heb.trans b7
  have t1 : Below w.heap.size w w1 := t0.trans (jW.mono t0.size)
  replace hk := hk.below jW
  replace hd := hd.below jW
  replace hp := hp.below jW
  replace q0 := below_cell jW q0
  replace q1 := below_cell jW q1
  replace q2 := below_cell jW q2
  replace q3 := below_cell jW q3
  replace lB := Nat.lt_of_lt_of_le lB jW.size
  clear jW o7 b7 o2 hc3 hg3 heb hez B0 m0 m1 z0 t0
  rw [HXl.out]
  go_wp2_with fail
  go_at_call 34
  refine (lossed_eq s wo ak ks ck ad ds cd ap lost cp false HR _ hk hd hp).mono ?_
  rintro e w2 ⟨rfl, b2⟩
  have j2 : Below w1.heap.size w1 w2 := by (repeat (first | exact Below.refl _ _ | refine Below.alloc ?_ (by first | omega | (simp; done) | (simp; omega)) _ | refine Below.drew ?_ | refine Below.setCell ?_ (by first | omega | (simp; done) | (simp; omega)) _ | refine Below.trans ?_ (Below.mono (by assumption) (by first | omega | (simp; done) | (simp; omega)))))
  have t2 : Below w.heap.size w w2 := t1.trans (j2.mono t1.size)
  replace hk := hk.below j2
  replace hd := hd.below j2
  replace hp := hp.below j2
  replace q0 := below_cell j2 q0
  replace q1 := below_cell j2 q1
  replace q2 := below_cell j2 q2
  replace q3 := below_cell j2 q3
  replace lB := Nat.lt_of_lt_of_le lB j2.size
  replace iX := iX.below j2
  go_wp2_with fail
  go_at_call 17
  refine (awake_any _).mono ?_
  rintro e w3 ⟨rfl, b3⟩
  have j3 : Below w2.heap.size w2 w3 := by (repeat (first | exact Below.refl _ _ | refine Below.alloc ?_ (by first | omega | (simp; done) | (simp; omega)) _ | refine Below.drew ?_ | refine Below.setCell ?_ (by first | omega | (simp; done) | (simp; omega)) _ | refine Below.trans ?_ (Below.mono (by assumption) (by first | omega | (simp; done) | (simp; omega)))))
  have t3 : Below w.heap.size w w3 := t2.trans (j3.mono t2.size)
  replace hk := hk.below j3
  replace hd := hd.below j3
  replace hp := hp.below j3
  replace q0 := below_cell j3 q0
  replace q1 := below_cell j3 q1
  replace q2 := below_cell j3 q2
  replace q3 := below_cell j3 q3
  replace lB := Nat.lt_of_lt_of_le lB j3.size
  replace iX := iX.below j3
  go_wp2_with fail
  go_ret
  exact ⟨rfl, t3⟩

set_option maxRecDepth 100000 in
set_option maxHeartbeats 4000000 in
theorem lost_b (s wo : Int) (ak : Option Addr) (ks : List (Int × Int × Int)) (ck : Nat) (ad : Option Addr) (ds : List Int) (cd : Nat) (ap : Option Addr) (lost : List (Int × Int)) (cp : Nat) (x y : Int) (A A1 : Nat) (w : World) (hk : Recs3At w ak ks) (hd : IntsAt w ad ds) (nd : ad = none → cd = 0) (hp : Recs2At w ap lost) (np : ap = none → cp = 0) (lp : lost.length ≤ 8796093021952) (hA : A ≤ 255) (hA1 : A1 ≤ 255) (hR : lossedB s wo ks ds lost = true) (hR2 : lossedB s wo ks ds (lost ++ [(x, y)]) = false) :
    Calls Try.prog 9 #[.agg #[.int .i64 s, .int .i64 wo, .slice ak ks.length ck, .slice ad ds.length cd], .slice ap lost.length cp, .agg #[.int .i64 x, .int .i64 y], .int .u8 A, .int .u8 A1] w fun e w' => e = .returned (.bool true) ∧ Below w.heap.size w w' := by

  have HR := Lib.hid hR
  have HR2' := Lib.hid hR2
  clear hR hR2
  obtain ⟨X, hX⟩ : ∃ X, lost ++ [(x, y)] = X := ⟨_, rfl⟩
  have hXl : lost.length + 1 = X.length := by rw [← hX]; simp
  have HX := Lib.hid hX
  have HXl := Lib.hid hXl
  clear hX hXl
  go_enter Try.func9, Try.ntmps9
  go_wp2_with fail
  obtain ⟨W0, hW0⟩ : ∃ z : World, z = (w.alloc (.cells #[.int .i64 s, .int .i64 wo, .slice ak ks.length ck, .slice ad ds.length cd] 25)).alloc (.cells #[.int .i64 x, .int .i64 y] 58) := ⟨_, rfl⟩
  have t0 : Below w.heap.size w W0 := by rw [hW0]; (repeat (first | exact Below.refl _ _ | refine Below.alloc ?_ (by first | omega | (simp; done) | (simp; omega)) _ | refine Below.drew ?_ | refine Below.setCell ?_ (by first | omega | (simp; done) | (simp; omega)) _ | refine Below.trans ?_ (Below.mono (by assumption) (by first | omega | (simp; done) | (simp; omega)))))
  have z0 : W0.heap.size = w.heap.size + 1 + 1 := by rw [hW0]; simp
  obtain ⟨q0, q1, q2, q3⟩ : BookAt W0 w.heap.size s wo ak ks.length ck ad ds.length cd := by rw [hW0]; exact (BookAt.new w s wo ak ks.length ck ad ds.length cd 25).below ((Below.refl _ _).alloc (Nat.le_refl _) _)
  have cM : Cells W0 (w.heap.size + 1) #[.int .i64 x, .int .i64 y] 58 := by
    rw [hW0]
    have := Cells.new (w.alloc (.cells #[.int .i64 s, .int .i64 wo, .slice ak ks.length ck, .slice ad ds.length cd] 25)) #[.int .i64 x, .int .i64 y] 58
    rwa [show (w.alloc (.cells #[.int .i64 s, .int .i64 wo, .slice ak ks.length ck, .slice ad ds.length cd] 25)).heap.size = w.heap.size + 1 by simp] at this
  have m0 := cM.cell 0
  have m1 := cM.cell 1
  simp at m0 m1
  rw [← hW0]
  clear hW0 cM
  have lB := cell_lt q0
  simp only at lB
  replace hk := hk.below t0
  replace hd := hd.below t0
  replace hp := hp.below t0
  have B0 : w.heap.size ≤ W0.heap.size := by omega
  (refine wp_region_seq 5 [] [5, 6] 209 [false, true, false, true, false] [LitV W0.heap.size 0 #[] 58, OwnV 58 2 W0.heap.size lost.length (flat2 lost), LitV W0.heap.size 1 #[.int .i64 x, .int .i64 y] 58] (by kernel_rfl) (by kernel_rfl) rfl (mono_cons (fun v w w' h hb => h.kept hb) (mono_cons (fun v w w' h hb => h.kept hb) (mono_cons (fun v w w' h hb => h.kept hb) mono_nil))) ?_; simp only [pickOps, List.filterMap_cons, List.filterMap_nil, List.getElem?_toArray, List.getElem?_cons_succ, List.getElem?_cons_zero]; (repeat (refine wpFl_step _ rfl (fun w => (by go_simp; rfl)) ?_)); refine wpFl_nil ?_; simp only [maskOps, dummy, Act.put, List.setIfInBounds_toArray, List.set_cons_zero, List.set_cons_succ, List.take_succ_cons, List.take_zero, List.drop_succ_cons, List.drop_zero]; (repeat (refine wpQB_step (fun K hK => ?_); go_simp; first | (refine hK _ ?_; clear hK K) | (apply Exists.intro; refine ⟨fun ex => ?_, hK _ ?_⟩; (fail); clear hK K))); refine wpQB_nil ?_; simp only [relObl2, under, relEnd, and_true, List.nil_append, List.cons_append])
  refine ⟨⟨fun e => ?_, fun e v1 h1 => ?_, fun e v1 h1 v2 h2 => ?_⟩, fun e => ?_⟩
  · go_simp
    exact ⟨(Below.refl _ _).alloc (Nat.le_refl _) _, e.to.heap.size, rfl, by have := e.size; omega, Cells.new _ _ _⟩
  · obtain ⟨g, rfl, hg, hc⟩ := h1 (by kernel_rfl)
    exact gives_app0 el_rlosses e.to W0.heap.size g _ _ rfl rfl hc hg ap lost.length cp (flat2 lost) rfl (fun h => ⟨hp.none0 h, np h⟩) (flat2_len lost) (SrcAt.recs2 (hp.below e.below)) (by unfold maxLen; omega) (by omega)
  · go_simp
    exact ⟨(Below.refl _ _).alloc (Nat.le_refl _) _, e.to.heap.size, rfl, by have := e.size; omega, Cells.new _ _ _⟩
  rintro v1 _ v2 ⟨a2, c2, rfl, o2⟩ v3 ⟨g3, rfl, hg3, hc3⟩
  simp only [Act.put, List.setIfInBounds_toArray, List.set_cons_zero, List.set_cons_succ]
  have heb := e.below
  have hez := e.size
  obtain ⟨x2, hx2⟩ : ∃ x : World, x = e.to := ⟨_, rfl⟩
  rw [← hx2] at heb hez hc3 o2 ⊢
  clear hx2
  refine wpList_app el_rlosses rfl _ _ rfl W0.heap.size a2 lost.length c2 _ rfl o2 (some ⟨g3, 0, none⟩) 1 1 _ rfl (fun h => by cases h) rfl hc3.src (fun u hu => by simp at hu; rcases hu with rfl | rfl <;> rfl) (by unfold maxLen; omega) (by omega) (by omega) ?_
  intro a7 c7 w1 o7 b7
  have iX : Recs2At w1 a7 X := by
    have := OwnL.recs2 (xs := lost ++ [(x, y)]) (by rw [flat2_snoc]; exact o7)
    rwa [HX.out] at this
  have nX : a7 = none → c7 = 0 := fun h => by subst h; exact o7.isnil.2
  have jW : Below W0.heap.size W0 w1 := heb.trans b7
  have t1 : Below w.heap.size w w1 := t0.trans (jW.mono t0.size)
  replace hk := hk.below jW
  replace hd := hd.below jW
  replace hp := hp.below jW
  replace q0 := below_cell jW q0
  replace q1 := below_cell jW q1
  replace q2 := below_cell jW q2
  replace q3 := below_cell jW q3
  replace lB := Nat.lt_of_lt_of_le lB jW.size
  clear jW o7 b7 o2 hc3 hg3 heb hez B0 m0 m1 z0 t0
  rw [HXl.out]
  go_wp2_with fail
  go_at_call 34
  refine (lossed_eq s wo ak ks ck ad ds cd ap lost cp true HR _ hk hd hp).mono ?_
  rintro e w2 ⟨rfl, b2⟩
  have j2 : Below w1.heap.size w1 w2 := by (repeat (first | exact Below.refl _ _ | refine Below.alloc ?_ (by first | omega | (simp; done) | (simp; omega)) _ | refine Below.drew ?_ | refine Below.setCell ?_ (by first | omega | (simp; done) | (simp; omega)) _ | refine Below.trans ?_ (Below.mono (by assumption) (by first | omega | (simp; done) | (simp; omega)))))
  have t2 : Below w.heap.size w w2 := t1.trans (j2.mono t1.size)
  replace hk := hk.below j2
  replace hd := hd.below j2
  replace hp := hp.below j2
  replace q0 := below_cell j2 q0
  replace q1 := below_cell j2 q1
  replace q2 := below_cell j2 q2
  replace q3 := below_cell j2 q3
  replace lB := Nat.lt_of_lt_of_le lB j2.size
  replace iX := iX.below j2
  have HR2 : Hid (lossedB s wo ks ds X = false) := Lib.hid (by rw [← HX.out]; exact HR2'.out)
  go_wp2_with fail
  go_at_call 34
  refine (lossed_eq s wo ak ks ck ad ds cd a7 X c7 false HR2 _ hk hd iX).mono ?_
  rintro e w3 ⟨rfl, b3⟩
  have j3 : Below w2.heap.size w2 w3 := by (repeat (first | exact Below.refl _ _ | refine Below.alloc ?_ (by first | omega | (simp; done) | (simp; omega)) _ | refine Below.drew ?_ | refine Below.setCell ?_ (by first | omega | (simp; done) | (simp; omega)) _ | refine Below.trans ?_ (Below.mono (by assumption) (by first | omega | (simp; done) | (simp; omega)))))
  have t3 : Below w.heap.size w w3 := t2.trans (j3.mono t2.size)
  replace hk := hk.below j3
  replace hd := hd.below j3
  replace hp := hp.below j3
  replace q0 := below_cell j3 q0
  replace q1 := below_cell j3 q1
  replace q2 := below_cell j3 q2
  replace q3 := below_cell j3 q3
  replace lB := Nat.lt_of_lt_of_le lB j3.size
  replace iX := iX.below j3
  go_wp2_with fail
  go_at_call 17
  refine (awake_any _).mono ?_
  rintro e w4 ⟨rfl, b4⟩
  have j4 : Below w3.heap.size w3 w4 := by (repeat (first | exact Below.refl _ _ | refine Below.alloc ?_ (by first | omega | (simp; done) | (simp; omega)) _ | refine Below.drew ?_ | refine Below.setCell ?_ (by first | omega | (simp; done) | (simp; omega)) _ | refine Below.trans ?_ (Below.mono (by assumption) (by first | omega | (simp; done) | (simp; omega)))))
  have t4 : Below w.heap.size w w4 := t3.trans (j4.mono t3.size)
  replace hk := hk.below j4
  replace hd := hd.below j4
  replace hp := hp.below j4
  replace q0 := below_cell j4 q0
  replace q1 := below_cell j4 q1
  replace q2 := below_cell j4 q2
  replace q3 := below_cell j4 q3
  replace lB := Nat.lt_of_lt_of_le lB j4.size
  replace iX := iX.below j4
  go_wp2_with fail
  go_ret
  exact ⟨rfl, t4⟩

set_option maxRecDepth 100000 in
set_option maxHeartbeats 4000000 in
theorem lost_c0 (s wo : Int) (ak : Option Addr) (ks : List (Int × Int × Int)) (ck : Nat) (ad : Option Addr) (ds : List Int) (cd : Nat) (ap : Option Addr) (lost : List (Int × Int)) (cp : Nat) (x y : Int) (A A1 : Nat) (w : World) (hk : Recs3At w ak ks) (hd : IntsAt w ad ds) (nd : ad = none → cd = 0) (hp : Recs2At w ap lost) (np : ap = none → cp = 0) (lp : lost.length ≤ 8796093021952) (hA : A ≤ 255) (hA1 : A1 ≤ 255) (hR : lossedB s wo ks ds lost = true) (hR2 : lossedB s wo ks ds (lost ++ [(x, y)]) = true) (most t : Int) (hmost : (A : Int) % 9 = most) (ht : most - (A1 : Int) % 3 = t) (ht0 : t ≤ 0) (OE OF OG : List Int) (n m k E F G : Int) (HOE : Hid (planDays s wo ks ds lost most = OE)) (HnE : Hid (planCh s wo ks ds lost most = n)) (HE : Hid (planErr s wo ks ds lost most = E)) (HOF : Hid (planDays s wo ks ds (lost ++ [(x, y)]) most = OF)) (HnF : Hid (planCh s wo ks ds (lost ++ [(x, y)]) most = m)) (HF : Hid (planErr s wo ks ds (lost ++ [(x, y)]) most = F)) (HOG : Hid (planDays s wo ks ds lost 0 = OG)) (HnG : Hid (planCh s wo ks ds lost 0 = k)) (HG : Hid (planErr s wo ks ds lost 0 = G)) (P Q : List Int) (HP : Hid (expOut s wo ks ds lost = P)) (HQ : Hid (expOut s wo ks ds (lost ++ [(x, y)]) = Q)) (HPl : Hid (P.length = ds.length)) (HQl : Hid (Q.length = ds.length)) (HPQ : Hid (∀ (d : Nat) (h : d < P.length) (h2 : d < Q.length), (0 ≤ P[d] → 0 ≤ Q[d] ∧ Q[d] ≤ P[d]) ∧ (0 ≤ Q[d] → (d : Int) ≤ Q[d]))) (Hfin : Hid (LostFin E F G n m k)) :
    Calls Try.prog 9 #[.agg #[.int .i64 s, .int .i64 wo, .slice ak ks.length ck, .slice ad ds.length cd], .slice ap lost.length cp, .agg #[.int .i64 x, .int .i64 y], .int .u8 A, .int .u8 A1] w fun e w' => e = .returned (.bool true) ∧ Below w.heap.size w w' := by

  have HR := Lib.hid hR
  obtain ⟨hl9, hle⟩ := lossedB_ok hR
  obtain ⟨hlX, hleX⟩ := lossedB_ok hR2
  obtain ⟨hbk, _, _⟩ := lossErr_ok hle
  obtain ⟨lk5, ld8, s0, s1, _, wo1, _, k0, dd0, _⟩ := bookErr_ok hbk
  have lk : ks.length ≤ 1000 := by omega
  have ld : ds.length ≤ 1000 := by omega
  have HR2' := Lib.hid hR2
  have Hle := Lib.hid hle
  have HleX' := Lib.hid hleX
  clear hR hR2 hbk hle hleX
  obtain ⟨X, hX⟩ : ∃ X, lost ++ [(x, y)] = X := ⟨_, rfl⟩
  have hXl : lost.length + 1 = X.length := by rw [← hX]; simp
  have HX := Lib.hid hX
  have HXl := Lib.hid hXl
  clear hX hXl
  go_enter Try.func9, Try.ntmps9
  go_wp2_with fail
  obtain ⟨W0, hW0⟩ : ∃ z : World, z = (w.alloc (.cells #[.int .i64 s, .int .i64 wo, .slice ak ks.length ck, .slice ad ds.length cd] 25)).alloc (.cells #[.int .i64 x, .int .i64 y] 58) := ⟨_, rfl⟩
  have t0 : Below w.heap.size w W0 := by rw [hW0]; (repeat (first | exact Below.refl _ _ | refine Below.alloc ?_ (by first | omega | (simp; done) | (simp; omega)) _ | refine Below.drew ?_ | refine Below.setCell ?_ (by first | omega | (simp; done) | (simp; omega)) _ | refine Below.trans ?_ (Below.mono (by assumption) (by first | omega | (simp; done) | (simp; omega)))))
  have z0 : W0.heap.size = w.heap.size + 1 + 1 := by rw [hW0]; simp
  obtain ⟨q0, q1, q2, q3⟩ : BookAt W0 w.heap.size s wo ak ks.length ck ad ds.length cd := by rw [hW0]; exact (BookAt.new w s wo ak ks.length ck ad ds.length cd 25).below ((Below.refl _ _).alloc (Nat.le_refl _) _)
  have cM : Cells W0 (w.heap.size + 1) #[.int .i64 x, .int .i64 y] 58 := by
    rw [hW0]
    have := Cells.new (w.alloc (.cells #[.int .i64 s, .int .i64 wo, .slice ak ks.length ck, .slice ad ds.length cd] 25)) #[.int .i64 x, .int .i64 y] 58
    rwa [show (w.alloc (.cells #[.int .i64 s, .int .i64 wo, .slice ak ks.length ck, .slice ad ds.length cd] 25)).heap.size = w.heap.size + 1 by simp] at this
  have m0 := cM.cell 0
  have m1 := cM.cell 1
  simp at m0 m1
  rw [← hW0]
  clear hW0 cM
  have lB := cell_lt q0
  simp only at lB
  replace hk := hk.below t0
  replace hd := hd.below t0
  replace hp := hp.below t0
  have B0 : w.heap.size ≤ W0.heap.size := by omega
  (refine wp_region_seq 5 [] [5, 6] 209 [false, true, false, true, false] [LitV W0.heap.size 0 #[] 58, OwnV 58 2 W0.heap.size lost.length (flat2 lost), LitV W0.heap.size 1 #[.int .i64 x, .int .i64 y] 58] (by kernel_rfl) (by kernel_rfl) rfl (mono_cons (fun v w w' h hb => h.kept hb) (mono_cons (fun v w w' h hb => h.kept hb) (mono_cons (fun v w w' h hb => h.kept hb) mono_nil))) ?_; simp only [pickOps, List.filterMap_cons, List.filterMap_nil, List.getElem?_toArray, List.getElem?_cons_succ, List.getElem?_cons_zero]; (repeat (refine wpFl_step _ rfl (fun w => (by go_simp; rfl)) ?_)); refine wpFl_nil ?_; simp only [maskOps, dummy, Act.put, List.setIfInBounds_toArray, List.set_cons_zero, List.set_cons_succ, List.take_succ_cons, List.take_zero, List.drop_succ_cons, List.drop_zero]; (repeat (refine wpQB_step (fun K hK => ?_); go_simp; first | (refine hK _ ?_; clear hK K) | (apply Exists.intro; refine ⟨fun ex => ?_, hK _ ?_⟩; (fail); clear hK K))); refine wpQB_nil ?_; simp only [relObl2, under, relEnd, and_true, List.nil_append, List.cons_append])
  refine ⟨⟨fun e => ?_, fun e v1 h1 => ?_, fun e v1 h1 v2 h2 => ?_⟩, fun e => ?_⟩
  · go_simp
    exact ⟨(Below.refl _ _).alloc (Nat.le_refl _) _, e.to.heap.size, rfl, by have := e.size; omega, Cells.new _ _ _⟩
  · obtain ⟨g, rfl, hg, hc⟩ := h1 (by kernel_rfl)
    exact gives_app0 el_rlosses e.to W0.heap.size g _ _ rfl rfl hc hg ap lost.length cp (flat2 lost) rfl (fun h => ⟨hp.none0 h, np h⟩) (flat2_len lost) (SrcAt.recs2 (hp.below e.below)) (by unfold maxLen; omega) (by omega)
  · go_simp
    exact ⟨(Below.refl _ _).alloc (Nat.le_refl _) _, e.to.heap.size, rfl, by have := e.size; omega, Cells.new _ _ _⟩
  rintro v1 _ v2 ⟨a2, c2, rfl, o2⟩ v3 ⟨g3, rfl, hg3, hc3⟩
  simp only [Act.put, List.setIfInBounds_toArray, List.set_cons_zero, List.set_cons_succ]
  have heb := e.below
  have hez := e.size
  obtain ⟨x2, hx2⟩ : ∃ x : World, x = e.to := ⟨_, rfl⟩
  rw [← hx2] at heb hez hc3 o2 ⊢
  clear hx2
  refine wpList_app el_rlosses rfl _ _ rfl W0.heap.size a2 lost.length c2 _ rfl o2 (some ⟨g3, 0, none⟩) 1 1 _ rfl (fun h => by cases h) rfl hc3.src (fun u hu => by simp at hu; rcases hu with rfl | rfl <;> rfl) (by unfold maxLen; omega) (by omega) (by omega) ?_
  intro a7 c7 w1 o7 b7
  have iX : Recs2At w1 a7 X := by
    have := OwnL.recs2 (xs := lost ++ [(x, y)]) (by rw [flat2_snoc]; exact o7)
    rwa [HX.out] at this
  have nX : a7 = none → c7 = 0 := fun h => by subst h; exact o7.isnil.2
  have jW : Below W0.heap.size W0 w1 := heb.trans b7
  have t1 : Below w.heap.size w w1 := t0.trans (jW.mono t0.size)
  replace hk := hk.below jW
  replace hd := hd.below jW
  replace hp := hp.below jW
  replace q0 := below_cell jW q0
  replace q1 := below_cell jW q1
  replace q2 := below_cell jW q2
  replace q3 := below_cell jW q3
  replace lB := Nat.lt_of_lt_of_le lB jW.size
  clear jW o7 b7 o2 hc3 hg3 heb hez B0 m0 m1 z0 t0
  rw [HXl.out]
  go_wp2_with fail
  go_at_call 34
  refine (lossed_eq s wo ak ks ck ad ds cd ap lost cp true HR _ hk hd hp).mono ?_
  rintro e w2 ⟨rfl, b2⟩
  have j2 : Below w1.heap.size w1 w2 := by (repeat (first | exact Below.refl _ _ | refine Below.alloc ?_ (by first | omega | (simp; done) | (simp; omega)) _ | refine Below.drew ?_ | refine Below.setCell ?_ (by first | omega | (simp; done) | (simp; omega)) _ | refine Below.trans ?_ (Below.mono (by assumption) (by first | omega | (simp; done) | (simp; omega)))))
  have t2 : Below w.heap.size w w2 := t1.trans (j2.mono t1.size)
  replace hk := hk.below j2
  replace hd := hd.below j2
  replace hp := hp.below j2
  replace q0 := below_cell j2 q0
  replace q1 := below_cell j2 q1
  replace q2 := below_cell j2 q2
  replace q3 := below_cell j2 q3
  replace lB := Nat.lt_of_lt_of_le lB j2.size
  replace iX := iX.below j2
  have HR2 : Hid (lossedB s wo ks ds X = true) := Lib.hid (by rw [← HX.out]; exact HR2'.out)
  have HleX : Hid (lossErr s wo ks ds X = 0) := Lib.hid (by rw [← HX.out]; exact HleX'.out)
  replace HOF : Hid (planDays s wo ks ds X most = OF) := Lib.hid (by rw [← HX.out]; exact HOF.out)
  replace HnF : Hid (planCh s wo ks ds X most = m) := Lib.hid (by rw [← HX.out]; exact HnF.out)
  replace HF : Hid (planErr s wo ks ds X most = F) := Lib.hid (by rw [← HX.out]; exact HF.out)
  replace HQ : Hid (expOut s wo ks ds X = Q) := Lib.hid (by rw [← HX.out]; exact HQ.out)
  have lX : X.length ≤ 1000 := by have := HXl.out; omega
  clear HR2' HleX'
  go_wp2_with fail
  go_at_call 34
  refine (lossed_eq s wo ak ks ck ad ds cd a7 X c7 true HR2 _ hk hd iX).mono ?_
  rintro e w3 ⟨rfl, b3⟩
  have j3 : Below w2.heap.size w2 w3 := by (repeat (first | exact Below.refl _ _ | refine Below.alloc ?_ (by first | omega | (simp; done) | (simp; omega)) _ | refine Below.drew ?_ | refine Below.setCell ?_ (by first | omega | (simp; done) | (simp; omega)) _ | refine Below.trans ?_ (Below.mono (by assumption) (by first | omega | (simp; done) | (simp; omega)))))
  have t3 : Below w.heap.size w w3 := t2.trans (j3.mono t2.size)
  replace hk := hk.below j3
  replace hd := hd.below j3
  replace hp := hp.below j3
  replace q0 := below_cell j3 q0
  replace q1 := below_cell j3 q1
  replace q2 := below_cell j3 q2
  replace q3 := below_cell j3 q3
  replace lB := Nat.lt_of_lt_of_le lB j3.size
  replace iX := iX.below j3
  go_wp2_with fail
  go_at_call 19
  refine (bookConv_at s wo ak ks ck ad ds cd _ hk hd lk ld nd).mono ?_
  rintro e w4 ⟨⟨akA, ckA, adA, cdA, rfl, kA, dA⟩, b4⟩
  have j4 : Below w3.heap.size w3 w4 := by (repeat (first | exact Below.refl _ _ | refine Below.alloc ?_ (by first | omega | (simp; done) | (simp; omega)) _ | refine Below.drew ?_ | refine Below.setCell ?_ (by first | omega | (simp; done) | (simp; omega)) _ | refine Below.trans ?_ (Below.mono (by assumption) (by first | omega | (simp; done) | (simp; omega)))))
  have t4 : Below w.heap.size w w4 := t3.trans (j4.mono t3.size)
  replace hk := hk.below j4
  replace hd := hd.below j4
  replace hp := hp.below j4
  replace q0 := below_cell j4 q0
  replace q1 := below_cell j4 q1
  replace q2 := below_cell j4 q2
  replace q3 := below_cell j4 q3
  replace lB := Nat.lt_of_lt_of_le lB j4.size
  replace iX := iX.below j4
  go_wp2_with fail
  go_at_call 30
  refine (lossesConv_at ap lost cp _ hp (by omega)).mono ?_
  rintro e w5 ⟨⟨aP, cP, rfl, iP, _⟩, b5⟩
  have j5 : Below w4.heap.size w4 w5 := by (repeat (first | exact Below.refl _ _ | refine Below.alloc ?_ (by first | omega | (simp; done) | (simp; omega)) _ | refine Below.drew ?_ | refine Below.setCell ?_ (by first | omega | (simp; done) | (simp; omega)) _ | refine Below.trans ?_ (Below.mono (by assumption) (by first | omega | (simp; done) | (simp; omega)))))
  have t5 : Below w.heap.size w w5 := t4.trans (j5.mono t4.size)
  replace hk := hk.below j5
  replace hd := hd.below j5
  replace hp := hp.below j5
  replace q0 := below_cell j5 q0
  replace q1 := below_cell j5 q1
  replace q2 := below_cell j5 q2
  replace q3 := below_cell j5 q3
  replace lB := Nat.lt_of_lt_of_le lB j5.size
  replace iX := iX.below j5
  replace kA := kA.below j5
  replace dA := dA.below j5
  go_wp2_with fail
  go_at_call 35
  refine (plan_at s wo akA ks ckA adA ds cdA aP lost cP most OE n E HOE HnE HE _ kA dA lk ld iP (by omega)).mono ?_
  rintro e w6 ⟨⟨aL6, cL6, rfl, _, _⟩, b6⟩
  have j6 : Below w5.heap.size w5 w6 := by (repeat (first | exact Below.refl _ _ | refine Below.alloc ?_ (by first | omega | (simp; done) | (simp; omega)) _ | refine Below.drew ?_ | refine Below.setCell ?_ (by first | omega | (simp; done) | (simp; omega)) _ | refine Below.trans ?_ (Below.mono (by assumption) (by first | omega | (simp; done) | (simp; omega)))))
  have t6 : Below w.heap.size w w6 := t5.trans (j6.mono t5.size)
  replace hk := hk.below j6
  replace hd := hd.below j6
  replace hp := hp.below j6
  replace q0 := below_cell j6 q0
  replace q1 := below_cell j6 q1
  replace q2 := below_cell j6 q2
  replace q3 := below_cell j6 q3
  replace lB := Nat.lt_of_lt_of_le lB j6.size
  replace iX := iX.below j6
  replace kA := kA.below j6
  replace dA := dA.below j6
  replace iP := iP.below j6
  clear kA dA iP
  go_wp2_with fail
  go_at_call 19
  refine (bookConv_at s wo ak ks ck ad ds cd _ hk hd lk ld nd).mono ?_
  rintro e w7 ⟨⟨akA, ckA, adA, cdA, rfl, kA, dA⟩, b7⟩
  have j7 : Below w6.heap.size w6 w7 := by (repeat (first | exact Below.refl _ _ | refine Below.alloc ?_ (by first | omega | (simp; done) | (simp; omega)) _ | refine Below.drew ?_ | refine Below.setCell ?_ (by first | omega | (simp; done) | (simp; omega)) _ | refine Below.trans ?_ (Below.mono (by assumption) (by first | omega | (simp; done) | (simp; omega)))))
  have t7 : Below w.heap.size w w7 := t6.trans (j7.mono t6.size)
  replace hk := hk.below j7
  replace hd := hd.below j7
  replace hp := hp.below j7
  replace q0 := below_cell j7 q0
  replace q1 := below_cell j7 q1
  replace q2 := below_cell j7 q2
  replace q3 := below_cell j7 q3
  replace lB := Nat.lt_of_lt_of_le lB j7.size
  replace iX := iX.below j7
  go_wp2_with fail
  go_at_call 30
  refine (lossesConv_at a7 X c7 _ iX (by omega)).mono ?_
  rintro e w8 ⟨⟨aP, cP, rfl, iP, _⟩, b8⟩
  have j8 : Below w7.heap.size w7 w8 := by (repeat (first | exact Below.refl _ _ | refine Below.alloc ?_ (by first | omega | (simp; done) | (simp; omega)) _ | refine Below.drew ?_ | refine Below.setCell ?_ (by first | omega | (simp; done) | (simp; omega)) _ | refine Below.trans ?_ (Below.mono (by assumption) (by first | omega | (simp; done) | (simp; omega)))))
  have t8 : Below w.heap.size w w8 := t7.trans (j8.mono t7.size)
  replace hk := hk.below j8
  replace hd := hd.below j8
  replace hp := hp.below j8
  replace q0 := below_cell j8 q0
  replace q1 := below_cell j8 q1
  replace q2 := below_cell j8 q2
  replace q3 := below_cell j8 q3
  replace lB := Nat.lt_of_lt_of_le lB j8.size
  replace iX := iX.below j8
  replace kA := kA.below j8
  replace dA := dA.below j8
  go_wp2_with fail
  go_at_call 35
  refine (plan_at s wo akA ks ckA adA ds cdA aP X cP most OF m F HOF HnF HF _ kA dA lk ld iP (by omega)).mono ?_
  rintro e w9 ⟨⟨aL9, cL9, rfl, _, _⟩, b9⟩
  have j9 : Below w8.heap.size w8 w9 := by (repeat (first | exact Below.refl _ _ | refine Below.alloc ?_ (by first | omega | (simp; done) | (simp; omega)) _ | refine Below.drew ?_ | refine Below.setCell ?_ (by first | omega | (simp; done) | (simp; omega)) _ | refine Below.trans ?_ (Below.mono (by assumption) (by first | omega | (simp; done) | (simp; omega)))))
  have t9 : Below w.heap.size w w9 := t8.trans (j9.mono t8.size)
  replace hk := hk.below j9
  replace hd := hd.below j9
  replace hp := hp.below j9
  replace q0 := below_cell j9 q0
  replace q1 := below_cell j9 q1
  replace q2 := below_cell j9 q2
  replace q3 := below_cell j9 q3
  replace lB := Nat.lt_of_lt_of_le lB j9.size
  replace iX := iX.below j9
  replace kA := kA.below j9
  replace dA := dA.below j9
  replace iP := iP.below j9
  clear kA dA iP
  go_wp2_with fail
  go_at_call 19
  refine (bookConv_at s wo ak ks ck ad ds cd _ hk hd lk ld nd).mono ?_
  rintro e w10 ⟨⟨akA, ckA, adA, cdA, rfl, kA, dA⟩, b10⟩
  have j10 : Below w9.heap.size w9 w10 := by (repeat (first | exact Below.refl _ _ | refine Below.alloc ?_ (by first | omega | (simp; done) | (simp; omega)) _ | refine Below.drew ?_ | refine Below.setCell ?_ (by first | omega | (simp; done) | (simp; omega)) _ | refine Below.trans ?_ (Below.mono (by assumption) (by first | omega | (simp; done) | (simp; omega)))))
  have t10 : Below w.heap.size w w10 := t9.trans (j10.mono t9.size)
  replace hk := hk.below j10
  replace hd := hd.below j10
  replace hp := hp.below j10
  replace q0 := below_cell j10 q0
  replace q1 := below_cell j10 q1
  replace q2 := below_cell j10 q2
  replace q3 := below_cell j10 q3
  replace lB := Nat.lt_of_lt_of_le lB j10.size
  replace iX := iX.below j10
  go_wp2_with fail
  go_at_call 30
  refine (lossesConv_at ap lost cp _ hp (by omega)).mono ?_
  rintro e w11 ⟨⟨aP, cP, rfl, iP, _⟩, b11⟩
  have j11 : Below w10.heap.size w10 w11 := by (repeat (first | exact Below.refl _ _ | refine Below.alloc ?_ (by first | omega | (simp; done) | (simp; omega)) _ | refine Below.drew ?_ | refine Below.setCell ?_ (by first | omega | (simp; done) | (simp; omega)) _ | refine Below.trans ?_ (Below.mono (by assumption) (by first | omega | (simp; done) | (simp; omega)))))
  have t11 : Below w.heap.size w w11 := t10.trans (j11.mono t10.size)
  replace hk := hk.below j11
  replace hd := hd.below j11
  replace hp := hp.below j11
  replace q0 := below_cell j11 q0
  replace q1 := below_cell j11 q1
  replace q2 := below_cell j11 q2
  replace q3 := below_cell j11 q3
  replace lB := Nat.lt_of_lt_of_le lB j11.size
  replace iX := iX.below j11
  replace kA := kA.below j11
  replace dA := dA.below j11
  go_wp2_with fail
  go_at_call 35
  refine (plan_at s wo akA ks ckA adA ds cdA aP lost cP 0 OG k G HOG HnG HG _ kA dA lk ld iP (by omega)).mono ?_
  rintro e w12 ⟨⟨aL12, cL12, rfl, _, _⟩, b12⟩
  have j12 : Below w11.heap.size w11 w12 := by (repeat (first | exact Below.refl _ _ | refine Below.alloc ?_ (by first | omega | (simp; done) | (simp; omega)) _ | refine Below.drew ?_ | refine Below.setCell ?_ (by first | omega | (simp; done) | (simp; omega)) _ | refine Below.trans ?_ (Below.mono (by assumption) (by first | omega | (simp; done) | (simp; omega)))))
  have t12 : Below w.heap.size w w12 := t11.trans (j12.mono t11.size)
  replace hk := hk.below j12
  replace hd := hd.below j12
  replace hp := hp.below j12
  replace q0 := below_cell j12 q0
  replace q1 := below_cell j12 q1
  replace q2 := below_cell j12 q2
  replace q3 := below_cell j12 q3
  replace lB := Nat.lt_of_lt_of_le lB j12.size
  replace iX := iX.below j12
  replace kA := kA.below j12
  replace dA := dA.below j12
  replace iP := iP.below j12
  clear kA dA iP
  go_wp2_with fail
  go_at_call 19
  refine (bookConv_at s wo ak ks ck ad ds cd _ hk hd lk ld nd).mono ?_
  rintro e w13 ⟨⟨akA, ckA, adA, cdA, rfl, kA, dA⟩, b13⟩
  have j13 : Below w12.heap.size w12 w13 := by (repeat (first | exact Below.refl _ _ | refine Below.alloc ?_ (by first | omega | (simp; done) | (simp; omega)) _ | refine Below.drew ?_ | refine Below.setCell ?_ (by first | omega | (simp; done) | (simp; omega)) _ | refine Below.trans ?_ (Below.mono (by assumption) (by first | omega | (simp; done) | (simp; omega)))))
  have t13 : Below w.heap.size w w13 := t12.trans (j13.mono t12.size)
  replace hk := hk.below j13
  replace hd := hd.below j13
  replace hp := hp.below j13
  replace q0 := below_cell j13 q0
  replace q1 := below_cell j13 q1
  replace q2 := below_cell j13 q2
  replace q3 := below_cell j13 q3
  replace lB := Nat.lt_of_lt_of_le lB j13.size
  replace iX := iX.below j13
  go_wp2_with fail
  go_at_call 30
  refine (lossesConv_at ap lost cp _ hp (by omega)).mono ?_
  rintro e w14 ⟨⟨aP, cP, rfl, iP, _⟩, b14⟩
  have j14 : Below w13.heap.size w13 w14 := by (repeat (first | exact Below.refl _ _ | refine Below.alloc ?_ (by first | omega | (simp; done) | (simp; omega)) _ | refine Below.drew ?_ | refine Below.setCell ?_ (by first | omega | (simp; done) | (simp; omega)) _ | refine Below.trans ?_ (Below.mono (by assumption) (by first | omega | (simp; done) | (simp; omega)))))
  have t14 : Below w.heap.size w w14 := t13.trans (j14.mono t13.size)
  replace hk := hk.below j14
  replace hd := hd.below j14
  replace hp := hp.below j14
  replace q0 := below_cell j14 q0
  replace q1 := below_cell j14 q1
  replace q2 := below_cell j14 q2
  replace q3 := below_cell j14 q3
  replace lB := Nat.lt_of_lt_of_le lB j14.size
  replace iX := iX.below j14
  replace kA := kA.below j14
  replace dA := dA.below j14
  go_wp2_with fail
  go_at_call 29
  refine (exposed_at s wo akA ks ckA adA ds cdA aP lost cP P 0 HP Hle _ kA dA lk ld iP (by omega)).mono ?_
  rintro e w15 ⟨⟨aU, cU, rfl, iU⟩, b15⟩
  have j15 : Below w14.heap.size w14 w15 := by (repeat (first | exact Below.refl _ _ | refine Below.alloc ?_ (by first | omega | (simp; done) | (simp; omega)) _ | refine Below.drew ?_ | refine Below.setCell ?_ (by first | omega | (simp; done) | (simp; omega)) _ | refine Below.trans ?_ (Below.mono (by assumption) (by first | omega | (simp; done) | (simp; omega)))))
  have t15 : Below w.heap.size w w15 := t14.trans (j15.mono t14.size)
  replace hk := hk.below j15
  replace hd := hd.below j15
  replace hp := hp.below j15
  replace q0 := below_cell j15 q0
  replace q1 := below_cell j15 q1
  replace q2 := below_cell j15 q2
  replace q3 := below_cell j15 q3
  replace lB := Nat.lt_of_lt_of_le lB j15.size
  replace iX := iX.below j15
  replace kA := kA.below j15
  replace dA := dA.below j15
  replace iP := iP.below j15
  clear kA dA iP
  go_wp2_with fail
  go_at_call 19
  refine (bookConv_at s wo ak ks ck ad ds cd _ hk hd lk ld nd).mono ?_
  rintro e w16 ⟨⟨akA, ckA, adA, cdA, rfl, kA, dA⟩, b16⟩
  have j16 : Below w15.heap.size w15 w16 := by (repeat (first | exact Below.refl _ _ | refine Below.alloc ?_ (by first | omega | (simp; done) | (simp; omega)) _ | refine Below.drew ?_ | refine Below.setCell ?_ (by first | omega | (simp; done) | (simp; omega)) _ | refine Below.trans ?_ (Below.mono (by assumption) (by first | omega | (simp; done) | (simp; omega)))))
  have t16 : Below w.heap.size w w16 := t15.trans (j16.mono t15.size)
  replace hk := hk.below j16
  replace hd := hd.below j16
  replace hp := hp.below j16
  replace q0 := below_cell j16 q0
  replace q1 := below_cell j16 q1
  replace q2 := below_cell j16 q2
  replace q3 := below_cell j16 q3
  replace lB := Nat.lt_of_lt_of_le lB j16.size
  replace iX := iX.below j16
  replace iU := iU.below j16
  go_wp2_with fail
  go_at_call 30
  refine (lossesConv_at a7 X c7 _ iX (by omega)).mono ?_
  rintro e w17 ⟨⟨aP, cP, rfl, iP, _⟩, b17⟩
  have j17 : Below w16.heap.size w16 w17 := by (repeat (first | exact Below.refl _ _ | refine Below.alloc ?_ (by first | omega | (simp; done) | (simp; omega)) _ | refine Below.drew ?_ | refine Below.setCell ?_ (by first | omega | (simp; done) | (simp; omega)) _ | refine Below.trans ?_ (Below.mono (by assumption) (by first | omega | (simp; done) | (simp; omega)))))
  have t17 : Below w.heap.size w w17 := t16.trans (j17.mono t16.size)
  replace hk := hk.below j17
  replace hd := hd.below j17
  replace hp := hp.below j17
  replace q0 := below_cell j17 q0
  replace q1 := below_cell j17 q1
  replace q2 := below_cell j17 q2
  replace q3 := below_cell j17 q3
  replace lB := Nat.lt_of_lt_of_le lB j17.size
  replace iX := iX.below j17
  replace iU := iU.below j17
  replace kA := kA.below j17
  replace dA := dA.below j17
  go_wp2_with fail
  go_at_call 29
  refine (exposed_at s wo akA ks ckA adA ds cdA aP X cP Q 0 HQ HleX _ kA dA lk ld iP (by omega)).mono ?_
  rintro e w18 ⟨⟨aV, cV, rfl, iV⟩, b18⟩
  have j18 : Below w17.heap.size w17 w18 := by (repeat (first | exact Below.refl _ _ | refine Below.alloc ?_ (by first | omega | (simp; done) | (simp; omega)) _ | refine Below.drew ?_ | refine Below.setCell ?_ (by first | omega | (simp; done) | (simp; omega)) _ | refine Below.trans ?_ (Below.mono (by assumption) (by first | omega | (simp; done) | (simp; omega)))))
  have t18 : Below w.heap.size w w18 := t17.trans (j18.mono t17.size)
  replace hk := hk.below j18
  replace hd := hd.below j18
  replace hp := hp.below j18
  replace q0 := below_cell j18 q0
  replace q1 := below_cell j18 q1
  replace q2 := below_cell j18 q2
  replace q3 := below_cell j18 q3
  replace lB := Nat.lt_of_lt_of_le lB j18.size
  replace iX := iX.below j18
  replace iU := iU.below j18
  replace kA := kA.below j18
  replace dA := dA.below j18
  replace iP := iP.below j18
  clear kA dA iP
  have hP1 : ((P.length : Int) != (ds.length : Int)) = false := by simp; have := HPl.out; omega
  have hQ1 : ((Q.length : Int) != (P.length : Int)) = false := by simp; have := HPl.out; have := HQl.out; omega
  have lP : P.length ≤ 1000 := by have := HPl.out; omega
  go_wp2_with fail
  go_loopw [27] (fun i wr => ∃ j : Nat, j ≤ P.length ∧ i = .int .i64 j ∧ Below w18.heap.size w18 wr) (fun i _ => P.length - (intOf i).toNat)
  case atStart => exact ⟨0, Nat.zero_le _, rfl, Below.refl _ _⟩
  case round =>
    obtain ⟨j, hj, rfl, bR⟩ := hrel
    by_cases hlt : j < P.length
    · have hlt2 : j < Q.length := by have := HPl.out; have := HQl.out; omega
      have hpq := HPQ.out j hlt hlt2
      obtain ⟨bp, op, rfl, lbp, cp1⟩ := (iU.below bR) j hlt
      obtain ⟨bq, oq, rfl, lbq, cq1⟩ := (iV.below bR) j hlt2
      replace cp1 := cp1.trans (by rw [List.getD_eq_getElem?_getD, List.getElem?_eq_getElem hlt]; rfl : _ = some (Value.int .i64 P[j]))
      replace cq1 := cq1.trans (by rw [List.getD_eq_getElem?_getD, List.getElem?_eq_getElem hlt2]; rfl : _ = some (Value.int .i64 Q[j]))
      have hji : (j : Int) < (P.length : Int) := by omega
      have hjq : (j : Int) < (Q.length : Int) := by omega
      obtain ⟨u, hu⟩ : ∃ u, P[j] = u := ⟨_, rfl⟩
      obtain ⟨v, hv⟩ : ∃ v, Q[j] = v := ⟨_, rfl⟩
      rw [hu] at hpq cp1
      rw [hv] at hpq cq1
      have hlt' := hlt
      clear hu hv
      by_cases hu0 : 0 ≤ u
      · have hv0 : 0 ≤ v := (hpq.1 hu0).1
        have hvu : v ≤ u := (hpq.1 hu0).2
        have hjv : (j : Int) ≤ v := hpq.2 hv0
        have f1 : decide (0 ≤ u) = true := by simpa using hu0
        have f2 : decide (v < 0) = false := by simp; omega
        have f3 : decide (u < v) = false := by simp; omega
        have f4 : decide (0 ≤ v) = true := by simpa using hv0
        have f5 : decide (v < (j : Int)) = false := by simp; omega
        clear hpq hu0 hv0 hvu hjv
        go_wp2_with fail
        (refine wp_region_ext 38 (by kernel_rfl) (by kernel_rfl) ?_; simp only [List.take_succ_cons, List.take_zero, List.drop_succ_cons, List.drop_zero]; (repeat (go_big_quiet_step ((fail)))); refine wpQuiet_nil ?_; rintro _ ⟨ex, rfl⟩; have hex := ex.below; have hexz := ex.size; (try simp at hexz); (try (have hy0 : w.heap.size < ex.to.heap.size := by omega)); (try (have hy1 : w.heap.size + 1 < ex.to.heap.size := by omega)); (try (have hy2 : w.heap.size + 2 < ex.to.heap.size := by omega)))
        have bE := ex.below
        go_wp2_with fail
        go_roundw
        case rel => exact ⟨j + 1, by omega, by go_num, bR.trans (bE.mono bR.size)⟩
        case measure => simp [intOf]; omega
      · have f1 : decide (0 ≤ u) = false := by simp; omega
        by_cases hv0 : 0 ≤ v
        · have hjv : (j : Int) ≤ v := hpq.2 hv0
          have f4 : decide (0 ≤ v) = true := by simpa using hv0
          have f5 : decide (v < (j : Int)) = false := by simp; omega
          clear hpq hu0 hv0 hjv
          go_wp2_with fail
          (refine wp_region_ext 38 (by kernel_rfl) (by kernel_rfl) ?_; simp only [List.take_succ_cons, List.take_zero, List.drop_succ_cons, List.drop_zero]; (repeat (go_big_quiet_step ((fail)))); refine wpQuiet_nil ?_; rintro _ ⟨ex, rfl⟩; have hex := ex.below; have hexz := ex.size; (try simp at hexz); (try (have hy0 : w.heap.size < ex.to.heap.size := by omega)); (try (have hy1 : w.heap.size + 1 < ex.to.heap.size := by omega)); (try (have hy2 : w.heap.size + 2 < ex.to.heap.size := by omega)))
          have bE := ex.below
          go_wp2_with fail
          go_roundw
          case rel => exact ⟨j + 1, by omega, by go_num, bR.trans (bE.mono bR.size)⟩
          case measure => simp [intOf]; omega
        · have f4 : decide (0 ≤ v) = false := by simp; omega
          clear hpq hu0 hv0
          go_wp2_with fail
          (refine wp_region_ext 38 (by kernel_rfl) (by kernel_rfl) ?_; simp only [List.take_succ_cons, List.take_zero, List.drop_succ_cons, List.drop_zero]; (repeat (go_big_quiet_step ((fail)))); refine wpQuiet_nil ?_; rintro _ ⟨ex, rfl⟩; have hex := ex.below; have hexz := ex.size; (try simp at hexz); (try (have hy0 : w.heap.size < ex.to.heap.size := by omega)); (try (have hy1 : w.heap.size + 1 < ex.to.heap.size := by omega)); (try (have hy2 : w.heap.size + 2 < ex.to.heap.size := by omega)))
          have bE := ex.below
          go_wp2_with fail
          go_roundw
          case rel => exact ⟨j + 1, by omega, by go_num, bR.trans (bE.mono bR.size)⟩
          case measure => simp [intOf]; omega
    · have hjP : j = P.length := by omega
      subst hjP
      have tR := t18.trans (bR.mono t18.size)
      have hf := Hfin.out
      unfold LostFin at hf
      rcases hf with ⟨rfl, rfl, rfl⟩ | ⟨rfl, ⟨rfl⟩ | ⟨rfl, hm⟩, ⟨rfl⟩ | ⟨rfl, hg⟩⟩
      all_goals
        try have hm' : decide (n ≤ m) = true := by simpa using hm
        try have hg' : decide (n ≤ k) = true := by simpa using hg
        go_wp2_with fail
        go_at_call 17
        refine (awake_any _).mono ?_
        rintro e wE ⟨rfl, bE⟩
        go_wp2_with fail
        go_ret
        exact ⟨rfl, tR.trans (bE.mono tR.size)⟩

set_option maxRecDepth 100000 in
set_option maxHeartbeats 4000000 in
theorem lost_c1 (s wo : Int) (ak : Option Addr) (ks : List (Int × Int × Int)) (ck : Nat) (ad : Option Addr) (ds : List Int) (cd : Nat) (ap : Option Addr) (lost : List (Int × Int)) (cp : Nat) (x y : Int) (A A1 : Nat) (w : World) (hk : Recs3At w ak ks) (hd : IntsAt w ad ds) (nd : ad = none → cd = 0) (hp : Recs2At w ap lost) (np : ap = none → cp = 0) (lp : lost.length ≤ 8796093021952) (hA : A ≤ 255) (hA1 : A1 ≤ 255) (hR : lossedB s wo ks ds lost = true) (hR2 : lossedB s wo ks ds (lost ++ [(x, y)]) = true) (most t : Int) (hmost : (A : Int) % 9 = most) (ht : most - (A1 : Int) % 3 = t) (ht0 : 0 < t) (OE OF OG : List Int) (n m k E F G : Int) (HOE : Hid (planDays s wo ks ds lost most = OE)) (HnE : Hid (planCh s wo ks ds lost most = n)) (HE : Hid (planErr s wo ks ds lost most = E)) (HOF : Hid (planDays s wo ks ds (lost ++ [(x, y)]) most = OF)) (HnF : Hid (planCh s wo ks ds (lost ++ [(x, y)]) most = m)) (HF : Hid (planErr s wo ks ds (lost ++ [(x, y)]) most = F)) (HOG : Hid (planDays s wo ks ds lost t = OG)) (HnG : Hid (planCh s wo ks ds lost t = k)) (HG : Hid (planErr s wo ks ds lost t = G)) (P Q : List Int) (HP : Hid (expOut s wo ks ds lost = P)) (HQ : Hid (expOut s wo ks ds (lost ++ [(x, y)]) = Q)) (HPl : Hid (P.length = ds.length)) (HQl : Hid (Q.length = ds.length)) (HPQ : Hid (∀ (d : Nat) (h : d < P.length) (h2 : d < Q.length), (0 ≤ P[d] → 0 ≤ Q[d] ∧ Q[d] ≤ P[d]) ∧ (0 ≤ Q[d] → (d : Int) ≤ Q[d]))) (Hfin : Hid (LostFin E F G n m k)) :
    Calls Try.prog 9 #[.agg #[.int .i64 s, .int .i64 wo, .slice ak ks.length ck, .slice ad ds.length cd], .slice ap lost.length cp, .agg #[.int .i64 x, .int .i64 y], .int .u8 A, .int .u8 A1] w fun e w' => e = .returned (.bool true) ∧ Below w.heap.size w w' := by

  have HR := Lib.hid hR
  obtain ⟨hl9, hle⟩ := lossedB_ok hR
  obtain ⟨hlX, hleX⟩ := lossedB_ok hR2
  obtain ⟨hbk, _, _⟩ := lossErr_ok hle
  obtain ⟨lk5, ld8, s0, s1, _, wo1, _, k0, dd0, _⟩ := bookErr_ok hbk
  have lk : ks.length ≤ 1000 := by omega
  have ld : ds.length ≤ 1000 := by omega
  have HR2' := Lib.hid hR2
  have Hle := Lib.hid hle
  have HleX' := Lib.hid hleX
  clear hR hR2 hbk hle hleX
  obtain ⟨X, hX⟩ : ∃ X, lost ++ [(x, y)] = X := ⟨_, rfl⟩
  have hXl : lost.length + 1 = X.length := by rw [← hX]; simp
  have HX := Lib.hid hX
  have HXl := Lib.hid hXl
  clear hX hXl
  go_enter Try.func9, Try.ntmps9
  go_wp2_with fail
  obtain ⟨W0, hW0⟩ : ∃ z : World, z = (w.alloc (.cells #[.int .i64 s, .int .i64 wo, .slice ak ks.length ck, .slice ad ds.length cd] 25)).alloc (.cells #[.int .i64 x, .int .i64 y] 58) := ⟨_, rfl⟩
  have t0 : Below w.heap.size w W0 := by rw [hW0]; (repeat (first | exact Below.refl _ _ | refine Below.alloc ?_ (by first | omega | (simp; done) | (simp; omega)) _ | refine Below.drew ?_ | refine Below.setCell ?_ (by first | omega | (simp; done) | (simp; omega)) _ | refine Below.trans ?_ (Below.mono (by assumption) (by first | omega | (simp; done) | (simp; omega)))))
  have z0 : W0.heap.size = w.heap.size + 1 + 1 := by rw [hW0]; simp
  obtain ⟨q0, q1, q2, q3⟩ : BookAt W0 w.heap.size s wo ak ks.length ck ad ds.length cd := by rw [hW0]; exact (BookAt.new w s wo ak ks.length ck ad ds.length cd 25).below ((Below.refl _ _).alloc (Nat.le_refl _) _)
  have cM : Cells W0 (w.heap.size + 1) #[.int .i64 x, .int .i64 y] 58 := by
    rw [hW0]
    have := Cells.new (w.alloc (.cells #[.int .i64 s, .int .i64 wo, .slice ak ks.length ck, .slice ad ds.length cd] 25)) #[.int .i64 x, .int .i64 y] 58
    rwa [show (w.alloc (.cells #[.int .i64 s, .int .i64 wo, .slice ak ks.length ck, .slice ad ds.length cd] 25)).heap.size = w.heap.size + 1 by simp] at this
  have m0 := cM.cell 0
  have m1 := cM.cell 1
  simp at m0 m1
  rw [← hW0]
  clear hW0 cM
  have lB := cell_lt q0
  simp only at lB
  replace hk := hk.below t0
  replace hd := hd.below t0
  replace hp := hp.below t0
  have B0 : w.heap.size ≤ W0.heap.size := by omega
  (refine wp_region_seq 5 [] [5, 6] 209 [false, true, false, true, false] [LitV W0.heap.size 0 #[] 58, OwnV 58 2 W0.heap.size lost.length (flat2 lost), LitV W0.heap.size 1 #[.int .i64 x, .int .i64 y] 58] (by kernel_rfl) (by kernel_rfl) rfl (mono_cons (fun v w w' h hb => h.kept hb) (mono_cons (fun v w w' h hb => h.kept hb) (mono_cons (fun v w w' h hb => h.kept hb) mono_nil))) ?_; simp only [pickOps, List.filterMap_cons, List.filterMap_nil, List.getElem?_toArray, List.getElem?_cons_succ, List.getElem?_cons_zero]; (repeat (refine wpFl_step _ rfl (fun w => (by go_simp; rfl)) ?_)); refine wpFl_nil ?_; simp only [maskOps, dummy, Act.put, List.setIfInBounds_toArray, List.set_cons_zero, List.set_cons_succ, List.take_succ_cons, List.take_zero, List.drop_succ_cons, List.drop_zero]; (repeat (refine wpQB_step (fun K hK => ?_); go_simp; first | (refine hK _ ?_; clear hK K) | (apply Exists.intro; refine ⟨fun ex => ?_, hK _ ?_⟩; (fail); clear hK K))); refine wpQB_nil ?_; simp only [relObl2, under, relEnd, and_true, List.nil_append, List.cons_append])
  refine ⟨⟨fun e => ?_, fun e v1 h1 => ?_, fun e v1 h1 v2 h2 => ?_⟩, fun e => ?_⟩
  · go_simp
    exact ⟨(Below.refl _ _).alloc (Nat.le_refl _) _, e.to.heap.size, rfl, by have := e.size; omega, Cells.new _ _ _⟩
  · obtain ⟨g, rfl, hg, hc⟩ := h1 (by kernel_rfl)
    exact gives_app0 el_rlosses e.to W0.heap.size g _ _ rfl rfl hc hg ap lost.length cp (flat2 lost) rfl (fun h => ⟨hp.none0 h, np h⟩) (flat2_len lost) (SrcAt.recs2 (hp.below e.below)) (by unfold maxLen; omega) (by omega)
  · go_simp
    exact ⟨(Below.refl _ _).alloc (Nat.le_refl _) _, e.to.heap.size, rfl, by have := e.size; omega, Cells.new _ _ _⟩
  rintro v1 _ v2 ⟨a2, c2, rfl, o2⟩ v3 ⟨g3, rfl, hg3, hc3⟩
  simp only [Act.put, List.setIfInBounds_toArray, List.set_cons_zero, List.set_cons_succ]
  have heb := e.below
  have hez := e.size
  obtain ⟨x2, hx2⟩ : ∃ x : World, x = e.to := ⟨_, rfl⟩
  rw [← hx2] at heb hez hc3 o2 ⊢
  clear hx2
  refine wpList_app el_rlosses rfl _ _ rfl W0.heap.size a2 lost.length c2 _ rfl o2 (some ⟨g3, 0, none⟩) 1 1 _ rfl (fun h => by cases h) rfl hc3.src (fun u hu => by simp at hu; rcases hu with rfl | rfl <;> rfl) (by unfold maxLen; omega) (by omega) (by omega) ?_
  intro a7 c7 w1 o7 b7
  have iX : Recs2At w1 a7 X := by
    have := OwnL.recs2 (xs := lost ++ [(x, y)]) (by rw [flat2_snoc]; exact o7)
    rwa [HX.out] at this
  have nX : a7 = none → c7 = 0 := fun h => by subst h; exact o7.isnil.2
  have jW : Below W0.heap.size W0 w1 := heb.trans b7
  have t1 : Below w.heap.size w w1 := t0.trans (jW.mono t0.size)
  replace hk := hk.below jW
  replace hd := hd.below jW
  replace hp := hp.below jW
  replace q0 := below_cell jW q0
  replace q1 := below_cell jW q1
  replace q2 := below_cell jW q2
  replace q3 := below_cell jW q3
  replace lB := Nat.lt_of_lt_of_le lB jW.size
  clear jW o7 b7 o2 hc3 hg3 heb hez B0 m0 m1 z0 t0
  rw [HXl.out]
  go_wp2_with fail
  go_at_call 34
  refine (lossed_eq s wo ak ks ck ad ds cd ap lost cp true HR _ hk hd hp).mono ?_
  rintro e w2 ⟨rfl, b2⟩
  have j2 : Below w1.heap.size w1 w2 := by (repeat (first | exact Below.refl _ _ | refine Below.alloc ?_ (by first | omega | (simp; done) | (simp; omega)) _ | refine Below.drew ?_ | refine Below.setCell ?_ (by first | omega | (simp; done) | (simp; omega)) _ | refine Below.trans ?_ (Below.mono (by assumption) (by first | omega | (simp; done) | (simp; omega)))))
  have t2 : Below w.heap.size w w2 := t1.trans (j2.mono t1.size)
  replace hk := hk.below j2
  replace hd := hd.below j2
  replace hp := hp.below j2
  replace q0 := below_cell j2 q0
  replace q1 := below_cell j2 q1
  replace q2 := below_cell j2 q2
  replace q3 := below_cell j2 q3
  replace lB := Nat.lt_of_lt_of_le lB j2.size
  replace iX := iX.below j2
  have HR2 : Hid (lossedB s wo ks ds X = true) := Lib.hid (by rw [← HX.out]; exact HR2'.out)
  have HleX : Hid (lossErr s wo ks ds X = 0) := Lib.hid (by rw [← HX.out]; exact HleX'.out)
  replace HOF : Hid (planDays s wo ks ds X most = OF) := Lib.hid (by rw [← HX.out]; exact HOF.out)
  replace HnF : Hid (planCh s wo ks ds X most = m) := Lib.hid (by rw [← HX.out]; exact HnF.out)
  replace HF : Hid (planErr s wo ks ds X most = F) := Lib.hid (by rw [← HX.out]; exact HF.out)
  replace HQ : Hid (expOut s wo ks ds X = Q) := Lib.hid (by rw [← HX.out]; exact HQ.out)
  have lX : X.length ≤ 1000 := by have := HXl.out; omega
  clear HR2' HleX'
  go_wp2_with fail
  go_at_call 34
  refine (lossed_eq s wo ak ks ck ad ds cd a7 X c7 true HR2 _ hk hd iX).mono ?_
  rintro e w3 ⟨rfl, b3⟩
  have j3 : Below w2.heap.size w2 w3 := by (repeat (first | exact Below.refl _ _ | refine Below.alloc ?_ (by first | omega | (simp; done) | (simp; omega)) _ | refine Below.drew ?_ | refine Below.setCell ?_ (by first | omega | (simp; done) | (simp; omega)) _ | refine Below.trans ?_ (Below.mono (by assumption) (by first | omega | (simp; done) | (simp; omega)))))
  have t3 : Below w.heap.size w w3 := t2.trans (j3.mono t2.size)
  replace hk := hk.below j3
  replace hd := hd.below j3
  replace hp := hp.below j3
  replace q0 := below_cell j3 q0
  replace q1 := below_cell j3 q1
  replace q2 := below_cell j3 q2
  replace q3 := below_cell j3 q3
  replace lB := Nat.lt_of_lt_of_le lB j3.size
  replace iX := iX.below j3
  go_wp2_with fail
  go_at_call 19
  refine (bookConv_at s wo ak ks ck ad ds cd _ hk hd lk ld nd).mono ?_
  rintro e w4 ⟨⟨akA, ckA, adA, cdA, rfl, kA, dA⟩, b4⟩
  have j4 : Below w3.heap.size w3 w4 := by (repeat (first | exact Below.refl _ _ | refine Below.alloc ?_ (by first | omega | (simp; done) | (simp; omega)) _ | refine Below.drew ?_ | refine Below.setCell ?_ (by first | omega | (simp; done) | (simp; omega)) _ | refine Below.trans ?_ (Below.mono (by assumption) (by first | omega | (simp; done) | (simp; omega)))))
  have t4 : Below w.heap.size w w4 := t3.trans (j4.mono t3.size)
  replace hk := hk.below j4
  replace hd := hd.below j4
  replace hp := hp.below j4
  replace q0 := below_cell j4 q0
  replace q1 := below_cell j4 q1
  replace q2 := below_cell j4 q2
  replace q3 := below_cell j4 q3
  replace lB := Nat.lt_of_lt_of_le lB j4.size
  replace iX := iX.below j4
  go_wp2_with fail
  go_at_call 30
  refine (lossesConv_at ap lost cp _ hp (by omega)).mono ?_
  rintro e w5 ⟨⟨aP, cP, rfl, iP, _⟩, b5⟩
  have j5 : Below w4.heap.size w4 w5 := by (repeat (first | exact Below.refl _ _ | refine Below.alloc ?_ (by first | omega | (simp; done) | (simp; omega)) _ | refine Below.drew ?_ | refine Below.setCell ?_ (by first | omega | (simp; done) | (simp; omega)) _ | refine Below.trans ?_ (Below.mono (by assumption) (by first | omega | (simp; done) | (simp; omega)))))
  have t5 : Below w.heap.size w w5 := t4.trans (j5.mono t4.size)
  replace hk := hk.below j5
  replace hd := hd.below j5
  replace hp := hp.below j5
  replace q0 := below_cell j5 q0
  replace q1 := below_cell j5 q1
  replace q2 := below_cell j5 q2
  replace q3 := below_cell j5 q3
  replace lB := Nat.lt_of_lt_of_le lB j5.size
  replace iX := iX.below j5
  replace kA := kA.below j5
  replace dA := dA.below j5
  go_wp2_with fail
  go_at_call 35
  refine (plan_at s wo akA ks ckA adA ds cdA aP lost cP most OE n E HOE HnE HE _ kA dA lk ld iP (by omega)).mono ?_
  rintro e w6 ⟨⟨aL6, cL6, rfl, _, _⟩, b6⟩
  have j6 : Below w5.heap.size w5 w6 := by (repeat (first | exact Below.refl _ _ | refine Below.alloc ?_ (by first | omega | (simp; done) | (simp; omega)) _ | refine Below.drew ?_ | refine Below.setCell ?_ (by first | omega | (simp; done) | (simp; omega)) _ | refine Below.trans ?_ (Below.mono (by assumption) (by first | omega | (simp; done) | (simp; omega)))))
  have t6 : Below w.heap.size w w6 := t5.trans (j6.mono t5.size)
  replace hk := hk.below j6
  replace hd := hd.below j6
  replace hp := hp.below j6
  replace q0 := below_cell j6 q0
  replace q1 := below_cell j6 q1
  replace q2 := below_cell j6 q2
  replace q3 := below_cell j6 q3
  replace lB := Nat.lt_of_lt_of_le lB j6.size
  replace iX := iX.below j6
  replace kA := kA.below j6
  replace dA := dA.below j6
  replace iP := iP.below j6
  clear kA dA iP
  go_wp2_with fail
  go_at_call 19
  refine (bookConv_at s wo ak ks ck ad ds cd _ hk hd lk ld nd).mono ?_
  rintro e w7 ⟨⟨akA, ckA, adA, cdA, rfl, kA, dA⟩, b7⟩
  have j7 : Below w6.heap.size w6 w7 := by (repeat (first | exact Below.refl _ _ | refine Below.alloc ?_ (by first | omega | (simp; done) | (simp; omega)) _ | refine Below.drew ?_ | refine Below.setCell ?_ (by first | omega | (simp; done) | (simp; omega)) _ | refine Below.trans ?_ (Below.mono (by assumption) (by first | omega | (simp; done) | (simp; omega)))))
  have t7 : Below w.heap.size w w7 := t6.trans (j7.mono t6.size)
  replace hk := hk.below j7
  replace hd := hd.below j7
  replace hp := hp.below j7
  replace q0 := below_cell j7 q0
  replace q1 := below_cell j7 q1
  replace q2 := below_cell j7 q2
  replace q3 := below_cell j7 q3
  replace lB := Nat.lt_of_lt_of_le lB j7.size
  replace iX := iX.below j7
  go_wp2_with fail
  go_at_call 30
  refine (lossesConv_at a7 X c7 _ iX (by omega)).mono ?_
  rintro e w8 ⟨⟨aP, cP, rfl, iP, _⟩, b8⟩
  have j8 : Below w7.heap.size w7 w8 := by (repeat (first | exact Below.refl _ _ | refine Below.alloc ?_ (by first | omega | (simp; done) | (simp; omega)) _ | refine Below.drew ?_ | refine Below.setCell ?_ (by first | omega | (simp; done) | (simp; omega)) _ | refine Below.trans ?_ (Below.mono (by assumption) (by first | omega | (simp; done) | (simp; omega)))))
  have t8 : Below w.heap.size w w8 := t7.trans (j8.mono t7.size)
  replace hk := hk.below j8
  replace hd := hd.below j8
  replace hp := hp.below j8
  replace q0 := below_cell j8 q0
  replace q1 := below_cell j8 q1
  replace q2 := below_cell j8 q2
  replace q3 := below_cell j8 q3
  replace lB := Nat.lt_of_lt_of_le lB j8.size
  replace iX := iX.below j8
  replace kA := kA.below j8
  replace dA := dA.below j8
  go_wp2_with fail
  go_at_call 35
  refine (plan_at s wo akA ks ckA adA ds cdA aP X cP most OF m F HOF HnF HF _ kA dA lk ld iP (by omega)).mono ?_
  rintro e w9 ⟨⟨aL9, cL9, rfl, _, _⟩, b9⟩
  have j9 : Below w8.heap.size w8 w9 := by (repeat (first | exact Below.refl _ _ | refine Below.alloc ?_ (by first | omega | (simp; done) | (simp; omega)) _ | refine Below.drew ?_ | refine Below.setCell ?_ (by first | omega | (simp; done) | (simp; omega)) _ | refine Below.trans ?_ (Below.mono (by assumption) (by first | omega | (simp; done) | (simp; omega)))))
  have t9 : Below w.heap.size w w9 := t8.trans (j9.mono t8.size)
  replace hk := hk.below j9
  replace hd := hd.below j9
  replace hp := hp.below j9
  replace q0 := below_cell j9 q0
  replace q1 := below_cell j9 q1
  replace q2 := below_cell j9 q2
  replace q3 := below_cell j9 q3
  replace lB := Nat.lt_of_lt_of_le lB j9.size
  replace iX := iX.below j9
  replace kA := kA.below j9
  replace dA := dA.below j9
  replace iP := iP.below j9
  clear kA dA iP
  go_wp2_with fail
  go_at_call 19
  refine (bookConv_at s wo ak ks ck ad ds cd _ hk hd lk ld nd).mono ?_
  rintro e w10 ⟨⟨akA, ckA, adA, cdA, rfl, kA, dA⟩, b10⟩
  have j10 : Below w9.heap.size w9 w10 := by (repeat (first | exact Below.refl _ _ | refine Below.alloc ?_ (by first | omega | (simp; done) | (simp; omega)) _ | refine Below.drew ?_ | refine Below.setCell ?_ (by first | omega | (simp; done) | (simp; omega)) _ | refine Below.trans ?_ (Below.mono (by assumption) (by first | omega | (simp; done) | (simp; omega)))))
  have t10 : Below w.heap.size w w10 := t9.trans (j10.mono t9.size)
  replace hk := hk.below j10
  replace hd := hd.below j10
  replace hp := hp.below j10
  replace q0 := below_cell j10 q0
  replace q1 := below_cell j10 q1
  replace q2 := below_cell j10 q2
  replace q3 := below_cell j10 q3
  replace lB := Nat.lt_of_lt_of_le lB j10.size
  replace iX := iX.below j10
  go_wp2_with fail
  go_at_call 30
  refine (lossesConv_at ap lost cp _ hp (by omega)).mono ?_
  rintro e w11 ⟨⟨aP, cP, rfl, iP, _⟩, b11⟩
  have j11 : Below w10.heap.size w10 w11 := by (repeat (first | exact Below.refl _ _ | refine Below.alloc ?_ (by first | omega | (simp; done) | (simp; omega)) _ | refine Below.drew ?_ | refine Below.setCell ?_ (by first | omega | (simp; done) | (simp; omega)) _ | refine Below.trans ?_ (Below.mono (by assumption) (by first | omega | (simp; done) | (simp; omega)))))
  have t11 : Below w.heap.size w w11 := t10.trans (j11.mono t10.size)
  replace hk := hk.below j11
  replace hd := hd.below j11
  replace hp := hp.below j11
  replace q0 := below_cell j11 q0
  replace q1 := below_cell j11 q1
  replace q2 := below_cell j11 q2
  replace q3 := below_cell j11 q3
  replace lB := Nat.lt_of_lt_of_le lB j11.size
  replace iX := iX.below j11
  replace kA := kA.below j11
  replace dA := dA.below j11
  go_wp2_with fail
  go_at_call 35
  refine (plan_at s wo akA ks ckA adA ds cdA aP lost cP t OG k G HOG HnG HG _ kA dA lk ld iP (by omega)).mono ?_
  rintro e w12 ⟨⟨aL12, cL12, rfl, _, _⟩, b12⟩
  have j12 : Below w11.heap.size w11 w12 := by (repeat (first | exact Below.refl _ _ | refine Below.alloc ?_ (by first | omega | (simp; done) | (simp; omega)) _ | refine Below.drew ?_ | refine Below.setCell ?_ (by first | omega | (simp; done) | (simp; omega)) _ | refine Below.trans ?_ (Below.mono (by assumption) (by first | omega | (simp; done) | (simp; omega)))))
  have t12 : Below w.heap.size w w12 := t11.trans (j12.mono t11.size)
  replace hk := hk.below j12
  replace hd := hd.below j12
  replace hp := hp.below j12
  replace q0 := below_cell j12 q0
  replace q1 := below_cell j12 q1
  replace q2 := below_cell j12 q2
  replace q3 := below_cell j12 q3
  replace lB := Nat.lt_of_lt_of_le lB j12.size
  replace iX := iX.below j12
  replace kA := kA.below j12
  replace dA := dA.below j12
  replace iP := iP.below j12
  clear kA dA iP
  go_wp2_with fail
  go_at_call 19
  refine (bookConv_at s wo ak ks ck ad ds cd _ hk hd lk ld nd).mono ?_
  rintro e w13 ⟨⟨akA, ckA, adA, cdA, rfl, kA, dA⟩, b13⟩
  have j13 : Below w12.heap.size w12 w13 := by (repeat (first | exact Below.refl _ _ | refine Below.alloc ?_ (by first | omega | (simp; done) | (simp; omega)) _ | refine Below.drew ?_ | refine Below.setCell ?_ (by first | omega | (simp; done) | (simp; omega)) _ | refine Below.trans ?_ (Below.mono (by assumption) (by first | omega | (simp; done) | (simp; omega)))))
  have t13 : Below w.heap.size w w13 := t12.trans (j13.mono t12.size)
  replace hk := hk.below j13
  replace hd := hd.below j13
  replace hp := hp.below j13
  replace q0 := below_cell j13 q0
  replace q1 := below_cell j13 q1
  replace q2 := below_cell j13 q2
  replace q3 := below_cell j13 q3
  replace lB := Nat.lt_of_lt_of_le lB j13.size
  replace iX := iX.below j13
  go_wp2_with fail
  go_at_call 30
  refine (lossesConv_at ap lost cp _ hp (by omega)).mono ?_
  rintro e w14 ⟨⟨aP, cP, rfl, iP, _⟩, b14⟩
  have j14 : Below w13.heap.size w13 w14 := by (repeat (first | exact Below.refl _ _ | refine Below.alloc ?_ (by first | omega | (simp; done) | (simp; omega)) _ | refine Below.drew ?_ | refine Below.setCell ?_ (by first | omega | (simp; done) | (simp; omega)) _ | refine Below.trans ?_ (Below.mono (by assumption) (by first | omega | (simp; done) | (simp; omega)))))
  have t14 : Below w.heap.size w w14 := t13.trans (j14.mono t13.size)
  replace hk := hk.below j14
  replace hd := hd.below j14
  replace hp := hp.below j14
  replace q0 := below_cell j14 q0
  replace q1 := below_cell j14 q1
  replace q2 := below_cell j14 q2
  replace q3 := below_cell j14 q3
  replace lB := Nat.lt_of_lt_of_le lB j14.size
  replace iX := iX.below j14
  replace kA := kA.below j14
  replace dA := dA.below j14
  go_wp2_with fail
  go_at_call 29
  refine (exposed_at s wo akA ks ckA adA ds cdA aP lost cP P 0 HP Hle _ kA dA lk ld iP (by omega)).mono ?_
  rintro e w15 ⟨⟨aU, cU, rfl, iU⟩, b15⟩
  have j15 : Below w14.heap.size w14 w15 := by (repeat (first | exact Below.refl _ _ | refine Below.alloc ?_ (by first | omega | (simp; done) | (simp; omega)) _ | refine Below.drew ?_ | refine Below.setCell ?_ (by first | omega | (simp; done) | (simp; omega)) _ | refine Below.trans ?_ (Below.mono (by assumption) (by first | omega | (simp; done) | (simp; omega)))))
  have t15 : Below w.heap.size w w15 := t14.trans (j15.mono t14.size)
  replace hk := hk.below j15
  replace hd := hd.below j15
  replace hp := hp.below j15
  replace q0 := below_cell j15 q0
  replace q1 := below_cell j15 q1
  replace q2 := below_cell j15 q2
  replace q3 := below_cell j15 q3
  replace lB := Nat.lt_of_lt_of_le lB j15.size
  replace iX := iX.below j15
  replace kA := kA.below j15
  replace dA := dA.below j15
  replace iP := iP.below j15
  clear kA dA iP
  go_wp2_with fail
  go_at_call 19
  refine (bookConv_at s wo ak ks ck ad ds cd _ hk hd lk ld nd).mono ?_
  rintro e w16 ⟨⟨akA, ckA, adA, cdA, rfl, kA, dA⟩, b16⟩
  have j16 : Below w15.heap.size w15 w16 := by (repeat (first | exact Below.refl _ _ | refine Below.alloc ?_ (by first | omega | (simp; done) | (simp; omega)) _ | refine Below.drew ?_ | refine Below.setCell ?_ (by first | omega | (simp; done) | (simp; omega)) _ | refine Below.trans ?_ (Below.mono (by assumption) (by first | omega | (simp; done) | (simp; omega)))))
  have t16 : Below w.heap.size w w16 := t15.trans (j16.mono t15.size)
  replace hk := hk.below j16
  replace hd := hd.below j16
  replace hp := hp.below j16
  replace q0 := below_cell j16 q0
  replace q1 := below_cell j16 q1
  replace q2 := below_cell j16 q2
  replace q3 := below_cell j16 q3
  replace lB := Nat.lt_of_lt_of_le lB j16.size
  replace iX := iX.below j16
  replace iU := iU.below j16
  go_wp2_with fail
  go_at_call 30
  refine (lossesConv_at a7 X c7 _ iX (by omega)).mono ?_
  rintro e w17 ⟨⟨aP, cP, rfl, iP, _⟩, b17⟩
  have j17 : Below w16.heap.size w16 w17 := by (repeat (first | exact Below.refl _ _ | refine Below.alloc ?_ (by first | omega | (simp; done) | (simp; omega)) _ | refine Below.drew ?_ | refine Below.setCell ?_ (by first | omega | (simp; done) | (simp; omega)) _ | refine Below.trans ?_ (Below.mono (by assumption) (by first | omega | (simp; done) | (simp; omega)))))
  have t17 : Below w.heap.size w w17 := t16.trans (j17.mono t16.size)
  replace hk := hk.below j17
  replace hd := hd.below j17
  replace hp := hp.below j17
  replace q0 := below_cell j17 q0
  replace q1 := below_cell j17 q1
  replace q2 := below_cell j17 q2
  replace q3 := below_cell j17 q3
  replace lB := Nat.lt_of_lt_of_le lB j17.size
  replace iX := iX.below j17
  replace iU := iU.below j17
  replace kA := kA.below j17
  replace dA := dA.below j17
  go_wp2_with fail
  go_at_call 29
  refine (exposed_at s wo akA ks ckA adA ds cdA aP X cP Q 0 HQ HleX _ kA dA lk ld iP (by omega)).mono ?_
  rintro e w18 ⟨⟨aV, cV, rfl, iV⟩, b18⟩
  have j18 : Below w17.heap.size w17 w18 := by (repeat (first | exact Below.refl _ _ | refine Below.alloc ?_ (by first | omega | (simp; done) | (simp; omega)) _ | refine Below.drew ?_ | refine Below.setCell ?_ (by first | omega | (simp; done) | (simp; omega)) _ | refine Below.trans ?_ (Below.mono (by assumption) (by first | omega | (simp; done) | (simp; omega)))))
  have t18 : Below w.heap.size w w18 := t17.trans (j18.mono t17.size)
  replace hk := hk.below j18
  replace hd := hd.below j18
  replace hp := hp.below j18
  replace q0 := below_cell j18 q0
  replace q1 := below_cell j18 q1
  replace q2 := below_cell j18 q2
  replace q3 := below_cell j18 q3
  replace lB := Nat.lt_of_lt_of_le lB j18.size
  replace iX := iX.below j18
  replace iU := iU.below j18
  replace kA := kA.below j18
  replace dA := dA.below j18
  replace iP := iP.below j18
  clear kA dA iP
  have hP1 : ((P.length : Int) != (ds.length : Int)) = false := by simp; have := HPl.out; omega
  have hQ1 : ((Q.length : Int) != (P.length : Int)) = false := by simp; have := HPl.out; have := HQl.out; omega
  have lP : P.length ≤ 1000 := by have := HPl.out; omega
  go_wp2_with fail
  go_loopw [27] (fun i wr => ∃ j : Nat, j ≤ P.length ∧ i = .int .i64 j ∧ Below w18.heap.size w18 wr) (fun i _ => P.length - (intOf i).toNat)
  case atStart => exact ⟨0, Nat.zero_le _, rfl, Below.refl _ _⟩
  case round =>
    obtain ⟨j, hj, rfl, bR⟩ := hrel
    by_cases hlt : j < P.length
    · have hlt2 : j < Q.length := by have := HPl.out; have := HQl.out; omega
      have hpq := HPQ.out j hlt hlt2
      obtain ⟨bp, op, rfl, lbp, cp1⟩ := (iU.below bR) j hlt
      obtain ⟨bq, oq, rfl, lbq, cq1⟩ := (iV.below bR) j hlt2
      replace cp1 := cp1.trans (by rw [List.getD_eq_getElem?_getD, List.getElem?_eq_getElem hlt]; rfl : _ = some (Value.int .i64 P[j]))
      replace cq1 := cq1.trans (by rw [List.getD_eq_getElem?_getD, List.getElem?_eq_getElem hlt2]; rfl : _ = some (Value.int .i64 Q[j]))
      have hji : (j : Int) < (P.length : Int) := by omega
      have hjq : (j : Int) < (Q.length : Int) := by omega
      obtain ⟨u, hu⟩ : ∃ u, P[j] = u := ⟨_, rfl⟩
      obtain ⟨v, hv⟩ : ∃ v, Q[j] = v := ⟨_, rfl⟩
      rw [hu] at hpq cp1
      rw [hv] at hpq cq1
      have hlt' := hlt
      clear hu hv
      by_cases hu0 : 0 ≤ u
      · have hv0 : 0 ≤ v := (hpq.1 hu0).1
        have hvu : v ≤ u := (hpq.1 hu0).2
        have hjv : (j : Int) ≤ v := hpq.2 hv0
        have f1 : decide (0 ≤ u) = true := by simpa using hu0
        have f2 : decide (v < 0) = false := by simp; omega
        have f3 : decide (u < v) = false := by simp; omega
        have f4 : decide (0 ≤ v) = true := by simpa using hv0
        have f5 : decide (v < (j : Int)) = false := by simp; omega
        clear hpq hu0 hv0 hvu hjv
        go_wp2_with fail
        (refine wp_region_ext 38 (by kernel_rfl) (by kernel_rfl) ?_; simp only [List.take_succ_cons, List.take_zero, List.drop_succ_cons, List.drop_zero]; (repeat (go_big_quiet_step ((fail)))); refine wpQuiet_nil ?_; rintro _ ⟨ex, rfl⟩; have hex := ex.below; have hexz := ex.size; (try simp at hexz); (try (have hy0 : w.heap.size < ex.to.heap.size := by omega)); (try (have hy1 : w.heap.size + 1 < ex.to.heap.size := by omega)); (try (have hy2 : w.heap.size + 2 < ex.to.heap.size := by omega)))
        have bE := ex.below
        go_wp2_with fail
        go_roundw
        case rel => exact ⟨j + 1, by omega, by go_num, bR.trans (bE.mono bR.size)⟩
        case measure => simp [intOf]; omega
      · have f1 : decide (0 ≤ u) = false := by simp; omega
        by_cases hv0 : 0 ≤ v
        · have hjv : (j : Int) ≤ v := hpq.2 hv0
          have f4 : decide (0 ≤ v) = true := by simpa using hv0
          have f5 : decide (v < (j : Int)) = false := by simp; omega
          clear hpq hu0 hv0 hjv
          go_wp2_with fail
          (refine wp_region_ext 38 (by kernel_rfl) (by kernel_rfl) ?_; simp only [List.take_succ_cons, List.take_zero, List.drop_succ_cons, List.drop_zero]; (repeat (go_big_quiet_step ((fail)))); refine wpQuiet_nil ?_; rintro _ ⟨ex, rfl⟩; have hex := ex.below; have hexz := ex.size; (try simp at hexz); (try (have hy0 : w.heap.size < ex.to.heap.size := by omega)); (try (have hy1 : w.heap.size + 1 < ex.to.heap.size := by omega)); (try (have hy2 : w.heap.size + 2 < ex.to.heap.size := by omega)))
          have bE := ex.below
          go_wp2_with fail
          go_roundw
          case rel => exact ⟨j + 1, by omega, by go_num, bR.trans (bE.mono bR.size)⟩
          case measure => simp [intOf]; omega
        · have f4 : decide (0 ≤ v) = false := by simp; omega
          clear hpq hu0 hv0
          go_wp2_with fail
          (refine wp_region_ext 38 (by kernel_rfl) (by kernel_rfl) ?_; simp only [List.take_succ_cons, List.take_zero, List.drop_succ_cons, List.drop_zero]; (repeat (go_big_quiet_step ((fail)))); refine wpQuiet_nil ?_; rintro _ ⟨ex, rfl⟩; have hex := ex.below; have hexz := ex.size; (try simp at hexz); (try (have hy0 : w.heap.size < ex.to.heap.size := by omega)); (try (have hy1 : w.heap.size + 1 < ex.to.heap.size := by omega)); (try (have hy2 : w.heap.size + 2 < ex.to.heap.size := by omega)))
          have bE := ex.below
          go_wp2_with fail
          go_roundw
          case rel => exact ⟨j + 1, by omega, by go_num, bR.trans (bE.mono bR.size)⟩
          case measure => simp [intOf]; omega
    · have hjP : j = P.length := by omega
      subst hjP
      have tR := t18.trans (bR.mono t18.size)
      have hf := Hfin.out
      unfold LostFin at hf
      rcases hf with ⟨rfl, rfl, rfl⟩ | ⟨rfl, ⟨rfl⟩ | ⟨rfl, hm⟩, ⟨rfl⟩ | ⟨rfl, hg⟩⟩
      all_goals
        try have hm' : decide (n ≤ m) = true := by simpa using hm
        try have hg' : decide (n ≤ k) = true := by simpa using hg
        go_wp2_with fail
        go_at_call 17
        refine (awake_any _).mono ?_
        rintro e wE ⟨rfl, bE⟩
        go_wp2_with fail
        go_ret
        exact ⟨rfl, tR.trans (bE.mono tR.size)⟩


theorem lost_walk (s wo : Int) (ak : Option Addr) (ks : List (Int × Int × Int)) (ck : Nat) (ad : Option Addr) (ds : List Int) (cd : Nat) (ap : Option Addr) (lost : List (Int × Int)) (cp : Nat) (x y a a1 : Int) (w : World) (hk : Recs3At w ak ks) (hd : IntsAt w ad ds) (nd : ad = none → cd = 0) (hp : Recs2At w ap lost) (np : ap = none → cp = 0) (lp : lost.length * 16 ≤ 140737488351232) (ha : (Lit.int .u8 a).wf = true) (ha1 : (Lit.int .u8 a1).wf = true) :
    Calls Try.prog 9 #[.agg #[.int .i64 s, .int .i64 wo, .slice ak ks.length ck, .slice ad ds.length cd], .slice ap lost.length cp, .agg #[.int .i64 x, .int .i64 y], .int .u8 a, .int .u8 a1] w fun e w' => e = .returned (.bool true) ∧ Below w.heap.size w w' := by
  have e0 := u8_b ha
  have e1 := u8_b ha1
  obtain ⟨A, rfl⟩ := Int.eq_ofNat_of_zero_le e0.1
  obtain ⟨A1, rfl⟩ := Int.eq_ofNat_of_zero_le e1.1
  cases hR : lossedB s wo ks ds lost
  · exact lost_a s wo ak ks ck ad ds cd ap lost cp x y A A1 w hk hd nd hp np (by omega) (by omega) (by omega) hR
  cases hR2 : lossedB s wo ks ds (lost ++ [(x, y)])
  · exact lost_b s wo ak ks ck ad ds cd ap lost cp x y A A1 w hk hd nd hp np (by omega) (by omega) (by omega) hR hR2
  have hle := (lossedB_ok hR).2
  have hleX := (lossedB_ok hR2).2
  have y0 : 0 ≤ y := by
    have := List.all_eq_true.1 (lossErr_ok hleX).2.2 (x, y) (by simp)
    simp [lossOk, ownOk] at this
    omega
  have hP : expOut s wo ks ds lost = expRes ds lost := if_pos hle
  have hQ : expOut s wo ks ds (lost ++ [(x, y)]) = expRes ds (lost ++ [(x, y)]) := if_pos hleX
  have hPQ : ∀ (d : Nat) (h : d < (expRes ds lost).length) (h2 : d < (expRes ds (lost ++ [(x, y)])).length), (0 ≤ (expRes ds lost)[d] → 0 ≤ (expRes ds (lost ++ [(x, y)]))[d] ∧ (expRes ds (lost ++ [(x, y)]))[d] ≤ (expRes ds lost)[d]) ∧ (0 ≤ (expRes ds (lost ++ [(x, y)]))[d] → (d : Int) ≤ (expRes ds (lost ++ [(x, y)]))[d]) := by
    intro d h h2
    have hd : d < ds.length := by have h' := h; unfold expRes at h'; rwa [upTo_len] at h'
    have g : ∀ l, (expRes ds l)[d]? = some (fromN l (ds.getD d 0) d) := fun l => upTo_getD _ _ _ hd
    obtain ⟨_, g1⟩ := List.getElem?_eq_some_iff.1 (g lost)
    obtain ⟨_, g2⟩ := List.getElem?_eq_some_iff.1 (g (lost ++ [(x, y)]))
    rw [g1, g2]
    exact from_more lost (x, y) _ d y0
  by_cases ht : (A : Int) % 9 - (A1 : Int) % 3 ≤ 0
  · exact lost_c0 s wo ak ks ck ad ds cd ap lost cp x y A A1 w hk hd nd hp np (by omega) (by omega) (by omega) hR hR2 _ _ rfl rfl ht _ _ _ _ _ _ _ _ _ (Lib.hid rfl) (Lib.hid rfl) (Lib.hid rfl) (Lib.hid rfl) (Lib.hid rfl) (Lib.hid rfl) (Lib.hid rfl) (Lib.hid rfl) (Lib.hid rfl) _ _ (Lib.hid hP) (Lib.hid hQ) (Lib.hid (by unfold expRes; rw [upTo_len])) (Lib.hid (by unfold expRes; rw [upTo_len])) (Lib.hid hPQ) (Lib.hid (lost_fin hle hleX y0 (by omega) (by omega) (by omega)))
  · exact lost_c1 s wo ak ks ck ad ds cd ap lost cp x y A A1 w hk hd nd hp np (by omega) (by omega) (by omega) hR hR2 _ _ rfl rfl (by omega) _ _ _ _ _ _ _ _ _ (Lib.hid rfl) (Lib.hid rfl) (Lib.hid rfl) (Lib.hid rfl) (Lib.hid rfl) (Lib.hid rfl) (Lib.hid rfl) (Lib.hid rfl) (Lib.hid rfl) _ _ (Lib.hid hP) (Lib.hid hQ) (Lib.hid (by unfold expRes; rw [upTo_len])) (Lib.hid (by unfold expRes; rw [upTo_len])) (Lib.hid hPQ) (Lib.hid (lost_fin hle hleX y0 (by omega) (by omega) (by omega)))
end Go.Proofs.Ytmplgcefhpobgaa
