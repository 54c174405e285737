/- CopiesEnds: the walk -/
import Derived.Test.YtfclemnkcpadpaaRt
import Derived.Test.YtfclemnkcpadpaaSa
import Derived.Test.YtfclemnkcpadpaaLf
namespace Go.Proofs.Ytfclemnkcpadpaa
set_option linter.unusedVariables false
set_option linter.unusedSimpArgs false
set_option linter.unnecessarySimpa false
open Go.RowKit Go.Flow Go.Shelf

def PtrE (i : Nat) (cs : Array Value) (T : TypeId) (v : Value) (w : World) : Prop := ∃ g, v = .pointer (some ⟨g, i, none⟩) ∧ Cells w g cs T
theorem PtrE.kept {i : Nat} {cs : Array Value} {T : TypeId} {v : Value} {w w' : World} (h : PtrE i cs T v w) (hb : Below w.heap.size w w') : PtrE i cs T v w' := let ⟨g, h1, h2⟩ := h; ⟨g, h1, h2.below hb⟩
theorem ents1 (w : World) (x y : Int) (z : Bool) (T : TypeId) : EntsAt (w.alloc (.cells #[.int .i64 x, .int .i64 y, .bool z] T)) (some ⟨w.heap.size, 0, none⟩) [⟨x, y, z⟩] := fun k hk => by
  obtain rfl : k = 0 := by simpa using hk
  have C := Cells.new w #[.int .i64 x, .int .i64 y, .bool z] T
  refine ⟨w.heap.size, 0, rfl, C.lt, ?_, ?_, ?_⟩
  · have := C.cell 0; simpa using this
  · have := C.cell 1; simpa using this
  · have := C.cell 2; simpa using this
def endAt (lo hi : Int) (i : Nat) : Int := if i = 0 then lo else if i = 1 then hi else if i = 2 then lo - 1 else hi + 1
theorem expl_err {p : Post} (h0 : postErr p = 0) {k : Nat} (hk : k < p.sends.length) {x : Int} (hx : inR x (0, 100) = true) (sk : Bool) : explErr p [⟨(k : Int), x, sk⟩] = if explB p [⟨(k : Int), x, sk⟩] = true then 0 else 9 := by
  have hb : bookErr p [⟨(k : Int), x, sk⟩] = 0 := by
    unfold bookErr
    rw [if_neg (by simpa using h0), if_neg (by simp)]
    have h1 : inR (k : Int) (0, (p.sends.length : Int) - 1) = true := inR_iff.2 ⟨by omega, by omega⟩
    rw [show [(⟨(k : Int), x, sk⟩ : Ent)].all (entOk p.sends.length) = true by simp [entOk, h1, hx]]; rfl
  unfold explErr
  rw [if_neg (by simpa using hb)]
theorem ends_cases {p : Post} (h0 : postErr p = 0) {k : Nat} (hk : k < p.sends.length) {lo hi : Int} (hsp : spanAt p k = (lo, hi)) {i : Nat} (hi4 : i < 4) :
    (inR (endAt lo hi i) (0, 100) = false ∧ 2 ≤ i) ∨ (inR (endAt lo hi i) (0, 100) = true ∧ ∃ E1 E2, explErr p [⟨(k : Int), endAt lo hi i, false⟩] = E1 ∧ explErr p [⟨(k : Int), endAt lo hi i, true⟩] = E2 ∧ ((i < 2 ∧ ((E1 = 0 ∧ E2 = 0) ∨ (E1 = 0 ∧ E2 = 9) ∨ (E1 = 9 ∧ E2 = 0))) ∨ (2 ≤ i ∧ E1 = 9 ∧ E2 = 9))) := by
  obtain ⟨l, h, f1, f2, f3, f4, f5, f6⟩ := finS_ends h0 (k + 1) (by omega)
  have e1 : lo = (l : Int) := by rw [← f1]; exact (congrArg Prod.fst hsp).symm
  have e2 : hi = (h : Int) := by rw [← f2]; exact (congrArg Prod.snd hsp).symm
  have hlh := (f6 l f4).2
  cases hin : inR (endAt lo hi i) (0, 100)
  · refine Or.inl ⟨rfl, ?_⟩
    rcases Nat.lt_or_ge i 2 with h2 | h2
    · have : inR (endAt lo hi i) (0, 100) = true := by
        refine inR_iff.2 ?_
        unfold endAt
        split
        · omega
        · rw [if_pos (by omega)]; omega
      rw [this] at hin; cases hin
    · exact h2
  · refine Or.inr ⟨rfl, _, _, rfl, rfl, ?_⟩
    have hb := inR_iff.1 hin
    obtain ⟨n, hn⟩ : ∃ n : Nat, endAt lo hi i = (n : Int) := ⟨(endAt lo hi i).toNat, by omega⟩
    rw [expl_err h0 hk hin, expl_err h0 hk hin, hn]
    have key := one_reach h0 hk n
    rcases Nat.lt_or_ge i 2 with h2 | h2
    · left
      refine ⟨h2, ?_⟩
      have hr : finS p [] (k + 1) n = true := by
        unfold endAt at hn
        split at hn
        · rw [show n = l by omega]; exact f4
        · rw [if_pos (by omega)] at hn
          rw [show n = h by omega]; exact f5
      have hk2 := key.2 hr
      cases h1 : explB p [⟨(k : Int), (n : Int), false⟩] <;> cases h3 : explB p [⟨(k : Int), (n : Int), true⟩]
      · rw [h1, h3] at hk2; simp at hk2
      · simp
      · simp
      · simp
    · right
      have hr : ¬ finS p [] (k + 1) n = true := fun hc => by
        have := f6 n hc
        unfold endAt at hn
        rw [if_neg (by omega), if_neg (by omega)] at hn
        split at hn <;> omega
      refine ⟨h2, ?_, ?_⟩
      · rw [if_neg (fun hc => hr (key.1 (Or.inl hc)))]
      · rw [if_neg (fun hc => hr (key.1 (Or.inr hc)))]

set_option maxRecDepth 100000 in
set_option maxHeartbeats 8000000 in
theorem ends_a1 (a : Option Addr) (c : Nat) (ar : Option Addr) (cr : Nat) (p : Post) (y : Int) (w : World) (hs : IntsAt w a p.sends) (hr : RoutesAt w ar p.routes) (na : a = none → c = 0) (big : PostBig p) (hy : (Lit.int .u8 y).wf = true) (hT : readyB p = false) :
    Calls Try.prog 12 #[.agg #[.slice a p.sends.length c, .slice ar p.routes.length cr, .int .i64 p.pat], .int .u8 y] w fun e w' => e = .returned (.bool true) ∧ Below w.heap.size w w' := by

  have HB := Lib.hid big
  have HT := Lib.hid hT
  clear hT big
  go_enter Try.func12, Try.ntmps12
  go_wp2_with fail
  go_at_call 44
  refine (ready_eq a c ar cr p _ false HT (hs.below (by (repeat (first | exact Below.refl _ _ | refine Below.alloc ?_ (by first | omega | (simp; done) | (simp; omega)) _ | refine Below.drew ?_ | refine Below.setCell ?_ (by first | omega | (simp; done) | (simp; omega)) _ | refine Below.trans ?_ (Below.mono (by assumption) (by first | omega | (simp; done) | (simp; omega))))))) (hr.below (by (repeat (first | exact Below.refl _ _ | refine Below.alloc ?_ (by first | omega | (simp; done) | (simp; omega)) _ | refine Below.drew ?_ | refine Below.setCell ?_ (by first | omega | (simp; done) | (simp; omega)) _ | refine Below.trans ?_ (Below.mono (by assumption) (by first | omega | (simp; done) | (simp; omega))))))) HB.out).mono ?_
  rintro e w1 ⟨rfl, b1⟩
  have t1 : Below w.heap.size w w1 := by (repeat (first | exact Below.refl _ _ | refine Below.alloc ?_ (by first | omega | (simp; done) | (simp; omega)) _ | refine Below.drew ?_ | refine Below.setCell ?_ (by first | omega | (simp; done) | (simp; omega)) _ | refine Below.trans ?_ (Below.mono (by assumption) (by first | omega | (simp; done) | (simp; omega)))))
  replace hs := hs.below t1
  replace hr := hr.below t1
  have q0 := box_cells b1 0 rfl
  have q1 := box_cells b1 1 rfl
  have q2 := box_cells b1 2 rfl
  have lB := cell_ltK q0
  go_wp2_with fail
  go_at_call 19
  refine (awake_any _).mono ?_
  rintro e w2 ⟨rfl, b2⟩
  have j2 : Below w1.heap.size w1 w2 := by (repeat (first | exact Below.refl _ _ | refine Below.alloc ?_ (by first | omega | (simp; done) | (simp; omega)) _ | refine Below.drew ?_ | refine Below.setCell ?_ (by first | omega | (simp; done) | (simp; omega)) _ | refine Below.trans ?_ (Below.mono (by assumption) (by first | omega | (simp; done) | (simp; omega)))))
  have t2 : Below w.heap.size w w2 := t1.trans (j2.mono t1.size)
  replace hs := hs.below j2
  replace hr := hr.below j2
  replace q0 := below_cell j2 q0
  replace q1 := below_cell j2 q1
  replace q2 := below_cell j2 q2
  replace lB := Nat.lt_of_lt_of_le lB j2.size
  go_wp2_with fail
  go_ret
  exact ⟨rfl, t2⟩

set_option maxRecDepth 100000 in
set_option maxHeartbeats 8000000 in
theorem ends_a2 (a : Option Addr) (c : Nat) (ar : Option Addr) (cr : Nat) (p : Post) (y : Int) (w : World) (hs : IntsAt w a p.sends) (hr : RoutesAt w ar p.routes) (na : a = none → c = 0) (big : PostBig p) (hy : (Lit.int .u8 y).wf = true) (hT : readyB p = true) :
    Calls Try.prog 12 #[.agg #[.slice a p.sends.length c, .slice ar p.routes.length cr, .int .i64 p.pat], .int .u8 y] w fun e w' => e = .returned (.bool true) ∧ Below w.heap.size w w' := by

  have HB := Lib.hid big
  have HT := Lib.hid hT
  have SM := Lib.hid (ready_small hT).1
  have HE := Lib.hid (ready_small hT).2
  have lS : p.sends.length ≤ 1000 := SM.out.1
  have lR : p.routes.length ≤ 1000 := SM.out.2
  obtain ⟨m, rfl, hm⟩ : ∃ m : Nat, y = (m : Int) ∧ m ≤ 255 := by
    have : 0 ≤ y ∧ y ≤ 255 := by simp [Lit.wf, IntKind.min, IntKind.max, IntKind.bits, IntKind.signed] at hy; omega
    exact ⟨y.toNat, by omega, by omega⟩
  have pS : 0 < p.sends.length := List.length_pos_iff.2 (postErr_ok HE.out).2.2.2.1
  have hdi : ¬ ((p.sends.length : Int) = 0) := by omega
  obtain ⟨k, hk⟩ : ∃ k, m % p.sends.length = k := ⟨_, rfl⟩
  have hkN : k < p.sends.length := by rw [← hk]; exact Nat.mod_lt _ pS
  have hkI : (k : Int) < (p.sends.length : Int) := by omega
  have htk : Int.tmod (m : Int) (p.sends.length : Int) = (k : Int) := by rw [← hk]; rfl
  have hwm : IntKind.i64.wrap (m : Int) = (m : Int) := IntWalk.i64_in _ (by omega)
  have HS : Hid (spansOut p = spansF p p.sends.length) := Lib.hid (by unfold spansOut; rw [if_pos HE.out])
  have HnS : Hid ((spansF p p.sends.length).length = p.sends.length) := Lib.hid (spansF_len p _)
  obtain ⟨⟨lo, hi⟩, hlh⟩ : ∃ x, spanAt p k = x := ⟨_, rfl⟩
  have hbd : 0 ≤ lo ∧ lo ≤ 60 ∧ 0 ≤ hi ∧ hi ≤ 60 := by
    obtain ⟨l, h, f1, f2, f3, f4, f5, f6⟩ := finS_ends HE.out (k + 1) (by omega)
    have e1 : lo = (l : Int) := by rw [← f1]; exact (congrArg Prod.fst hlh).symm
    have e2 : hi = (h : Int) := by rw [← f2]; exact (congrArg Prod.snd hlh).symm
    have := (f6 l f4).2
    omega
  have Hec := Lib.hid (fun i (hi4 : i < 4) => ends_cases HE.out hkN hlh hi4)
  have Hlh := Lib.hid hlh
  have hwl : IntKind.i64.wrap (lo - 1) = lo - 1 := IntWalk.i64_in _ (by omega)
  have hwh : IntKind.i64.wrap (hi + 1) = hi + 1 := IntWalk.i64_in _ (by omega)
  clear hT big hk hlh hy
  go_enter Try.func12, Try.ntmps12
  go_wp2_with fail
  go_at_call 44
  refine (ready_eq a c ar cr p _ true HT (hs.below (by (repeat (first | exact Below.refl _ _ | refine Below.alloc ?_ (by first | omega | (simp; done) | (simp; omega)) _ | refine Below.drew ?_ | refine Below.setCell ?_ (by first | omega | (simp; done) | (simp; omega)) _ | refine Below.trans ?_ (Below.mono (by assumption) (by first | omega | (simp; done) | (simp; omega))))))) (hr.below (by (repeat (first | exact Below.refl _ _ | refine Below.alloc ?_ (by first | omega | (simp; done) | (simp; omega)) _ | refine Below.drew ?_ | refine Below.setCell ?_ (by first | omega | (simp; done) | (simp; omega)) _ | refine Below.trans ?_ (Below.mono (by assumption) (by first | omega | (simp; done) | (simp; omega))))))) HB.out).mono ?_
  rintro e w1 ⟨rfl, b1⟩
  have t1 : Below w.heap.size w w1 := by (repeat (first | exact Below.refl _ _ | refine Below.alloc ?_ (by first | omega | (simp; done) | (simp; omega)) _ | refine Below.drew ?_ | refine Below.setCell ?_ (by first | omega | (simp; done) | (simp; omega)) _ | refine Below.trans ?_ (Below.mono (by assumption) (by first | omega | (simp; done) | (simp; omega)))))
  replace hs := hs.below t1
  replace hr := hr.below t1
  have q0 := box_cells b1 0 rfl
  have q1 := box_cells b1 1 rfl
  have q2 := box_cells b1 2 rfl
  have lB := cell_ltK q0
  go_wp2_with fail
  go_at_call 21
  refine (post_eq a c ar cr p _ hs hr SM na).mono ?_
  rintro e w2 ⟨⟨a2, c2, r2, d2, rfl, s2, o2⟩, b2⟩
  have j2 : Below w1.heap.size w1 w2 := by (repeat (first | exact Below.refl _ _ | refine Below.alloc ?_ (by first | omega | (simp; done) | (simp; omega)) _ | refine Below.drew ?_ | refine Below.setCell ?_ (by first | omega | (simp; done) | (simp; omega)) _ | refine Below.trans ?_ (Below.mono (by assumption) (by first | omega | (simp; done) | (simp; omega)))))
  have t2 : Below w.heap.size w w2 := t1.trans (j2.mono t1.size)
  replace hs := hs.below j2
  replace hr := hr.below j2
  replace q0 := below_cell j2 q0
  replace q1 := below_cell j2 q1
  replace q2 := below_cell j2 q2
  replace lB := Nat.lt_of_lt_of_le lB j2.size
  go_wp2_with fail
  go_at_call 32
  refine (spans_eq a2 c2 r2 d2 p _ 0 (spansF p p.sends.length) p.sends.length HE HS HnS s2 o2 SM).mono ?_
  rintro e w3 ⟨⟨e3, f3, rfl, i3⟩, b3⟩
  have j3 : Below w2.heap.size w2 w3 := by (repeat (first | exact Below.refl _ _ | refine Below.alloc ?_ (by first | omega | (simp; done) | (simp; omega)) _ | refine Below.drew ?_ | refine Below.setCell ?_ (by first | omega | (simp; done) | (simp; omega)) _ | refine Below.trans ?_ (Below.mono (by assumption) (by first | omega | (simp; done) | (simp; omega)))))
  have t3 : Below w.heap.size w w3 := t2.trans (j3.mono t2.size)
  replace hs := hs.below j3
  replace hr := hr.below j3
  replace q0 := below_cell j3 q0
  replace q1 := below_cell j3 q1
  replace q2 := below_cell j3 q2
  replace lB := Nat.lt_of_lt_of_le lB j3.size
  replace s2 := s2.below j3
  replace o2 := o2.below j3
  clear s2 o2
  go_wp2_with fail
  go_loopw [8] (fun u wr => ∃ i : Nat, i ≤ 4 ∧ u = .int .i64 i ∧ Below w3.heap.size w3 wr) (fun u _ => 4 - (intOf u).toNat)
  case atStart => exact ⟨0, Nat.zero_le _, rfl, Below.refl _ _⟩
  case round =>
    obtain ⟨i, hi', rfl, hb⟩ := hrel
    have zb := hb.size
    have tw := t3.trans (hb.mono t3.size)
    by_cases hil : i < 4
    · have hiI : (i : Int) < 4 := by omega
      have hkS : k < (spansF p p.sends.length).length := by rw [HnS.out]; exact hkN
      obtain ⟨g1, off1, rfl, hg1, y0, y1⟩ := (i3.below hb) k hkS
      rw [show (spansF p p.sends.length)[k] = spanAt p k by simp [spansF], Hlh.out] at y0 y1
      simp only at y0 y1
      have hec := Hec.out i hil
      obtain ⟨x, hx⟩ : ∃ x, endAt lo hi i = x := ⟨_, rfl⟩
      rw [hx] at hec
      have Hcs : Hid ((#[Value.int .i64 lo, .int .i64 hi, .int .i64 (lo - 1), .int .i64 (hi + 1)] : Array Value)[i]? = some (.int .i64 x)) := Lib.hid (by
        rw [← hx]
        match i, hil with
        | 0, _ => rfl
        | 1, _ => rfl
        | 2, _ => rfl
        | 3, _ => rfl)
      have Hec2 := Lib.hid hec
      clear hx hec hkS
      go_wp2
      (refine wp_region_seq 26 [] [26] 121 [true, true, true, true, true, true, true, true, true, true, true, true, true, true, true, true, true, true, true, true, true, true, false, true, false, false] [LitV wr.heap.size 4 #[.int .i64 lo, .int .i64 hi, .int .i64 (lo - 1), .int .i64 (hi + 1)] 3, PtrE i #[.int .i64 lo, .int .i64 hi, .int .i64 (lo - 1), .int .i64 (hi + 1)] 3, IntV x] (by kernel_rfl) (by kernel_rfl) rfl (mono_cons (fun v w w' h hb => h.kept hb) (mono_cons (fun v w w' h hb => h.kept hb) (mono_cons (fun v w w' h hb => h.kept hb) mono_nil))) ?_; simp only [pickOps, List.filterMap_cons, List.filterMap_nil, List.getElem?_toArray, List.getElem?_cons_succ, List.getElem?_cons_zero]; (repeat (refine wpFl_step _ rfl (fun w => (by go_simp; rfl)) ?_)); refine wpFl_nil ?_; simp only [maskOps, dummy, Act.put, List.setIfInBounds_toArray, List.set_cons_zero, List.set_cons_succ, List.take_succ_cons, List.take_zero, List.drop_succ_cons, List.drop_zero]; (repeat (refine wpQB_step (fun K hK => ?_); go_simp; first | (refine hK _ ?_; clear hK K) | (apply Exists.intro; refine ⟨fun ex => ?_, hK _ ?_⟩; (fail); clear hK K))); refine wpQB_nil ?_; simp only [relObl2, under, relEnd, and_true, List.nil_append, List.cons_append])
      refine ⟨⟨?_, ?_, ?_⟩, ?_⟩
      · intro e
        go_simp
        exact ⟨(Below.refl _ _).alloc (Nat.le_refl _) _, e.to.heap.size, rfl, e.size, Cells.new _ _ _⟩
      · intro e v1 h1
        obtain ⟨g, rfl, hg, CG⟩ := h1 (by kernel_rfl)
        go_simp
        exact ⟨Below.refl _ _, g, by simp, CG⟩
      · intro e v1 _ v2 h2
        obtain ⟨g, rfl, CG⟩ := h2 (by kernel_rfl)
        have cg := (CG.cell i).trans Hcs.out
        go_simp
        exact ⟨Below.refl _ _, rfl⟩
      intro e
      rintro v1 - v2 - v3 hv3
      obtain rfl : v3 = .int .i64 x := hv3
      simp only [Act.put, List.setIfInBounds_toArray, List.set_cons_zero, List.set_cons_succ]
      have he5 := e.below
      obtain ⟨v0, hv0⟩ : ∃ x : World, x = e.to := ⟨_, rfl⟩
      rw [← hv0] at he5 ⊢
      clear hv0 e y0 y1
      have bv : Below w3.heap.size w3 v0 := hb.trans (he5.mono zb)
      have hs5 := hs.below bv
      have hr5 := hr.below bv
      have p0 := below_cell bv q0
      have p1 := below_cell bv q1
      have p2 := below_cell bv q2
      have lp := cell_ltK p0
      have zv := bv.size
      clear he5
      rcases Hec2.out with ⟨hin, h2⟩ | ⟨hin, E1, E2, hE1, hE2, hcase⟩
      · have hn2 : ¬ ((i : Int) < 2) := by omega
        go_wp2_with fail
        go_at_call 29
        refine (refIn_any _ _ _ _).mono ?_
        rintro e _ ⟨rfl, rfl⟩
        rw [hin]
        go_wp2_with fail
        go_roundw
        case rel => exact ⟨i + 1, by omega, by go_num, bv⟩
        case measure => simp [intOf]; omega
      · have HE1 := Lib.hid hE1
        have HE2 := Lib.hid hE2
        obtain ⟨tE1, ht1⟩ : ∃ t, explOut p [⟨(k : Int), x, false⟩] = t := ⟨_, rfl⟩
        obtain ⟨n1, hn1⟩ : ∃ n, tE1.length = n := ⟨_, rfl⟩
        obtain ⟨tE2, ht2⟩ : ∃ t, explOut p [⟨(k : Int), x, true⟩] = t := ⟨_, rfl⟩
        obtain ⟨n2, hn2⟩ : ∃ n, tE2.length = n := ⟨_, rfl⟩
        have Ht1 := Lib.hid ht1
        have Ht2 := Lib.hid ht2
        have Hn1 := Lib.hid hn1
        have Hn2 := Lib.hid hn2
        clear hE1 hE2 ht1 ht2 hn1 hn2
        rcases hcase with ⟨h2, ⟨rfl, rfl⟩ | ⟨rfl, rfl⟩ | ⟨rfl, rfl⟩⟩ | ⟨h2, rfl, rfl⟩
        · have hB : (i : Int) < 2 := by omega
          have hD : decide ((i : Int) < 2) = true := by simp; omega
          go_wp2_with fail
          go_at_call 29
          refine (refIn_any _ _ _ _).mono ?_
          rintro e _ ⟨rfl, rfl⟩
          rw [hin]
          go_wp2_with fail
          go_at_call 21
          refine (post_eq a c ar cr p _ hs5 hr5 SM na).mono ?_
          rintro e v1 ⟨⟨a6, c6, r6, d6, rfl, s6, o6⟩, b1⟩
          have t1 : Below v0.heap.size v0 v1 := by (repeat (first | exact Below.refl _ _ | refine Below.alloc ?_ (by first | omega | (simp; done) | (simp; omega)) _ | refine Below.drew ?_ | refine Below.setCell ?_ (by first | omega | (simp; done) | (simp; omega)) _ | refine Below.trans ?_ (Below.mono (by assumption) (by first | omega | (simp; done) | (simp; omega)))))
          replace hs5 := hs5.below t1
          replace hr5 := hr5.below t1
          replace p0 := below_cell t1 p0
          replace p1 := below_cell t1 p1
          replace p2 := below_cell t1 p2
          replace lp := Nat.lt_of_lt_of_le lp t1.size
          go_wp2_with fail
          go_at_call 48
          refine (explain_eq a6 c6 r6 d6 p (some ⟨v1.heap.size, 0, none⟩) [⟨(k : Int), x, false⟩] 1 _ 0 tE1 n1 HE1 Ht1 Hn1 (s6.below (by (repeat (first | exact Below.refl _ _ | refine Below.alloc ?_ (by first | omega | (simp; done) | (simp; omega)) _ | refine Below.drew ?_ | refine Below.setCell ?_ (by first | omega | (simp; done) | (simp; omega)) _ | refine Below.trans ?_ (Below.mono (by assumption) (by first | omega | (simp; done) | (simp; omega))))))) (o6.below (by (repeat (first | exact Below.refl _ _ | refine Below.alloc ?_ (by first | omega | (simp; done) | (simp; omega)) _ | refine Below.drew ?_ | refine Below.setCell ?_ (by first | omega | (simp; done) | (simp; omega)) _ | refine Below.trans ?_ (Below.mono (by assumption) (by first | omega | (simp; done) | (simp; omega))))))) SM (ents1 v1 (k : Int) x false _) (by simp)).mono ?_
          rintro e v2 ⟨⟨e6, f6, rfl, _, _⟩, b2⟩
          have j2 : Below v1.heap.size v1 v2 := by (repeat (first | exact Below.refl _ _ | refine Below.alloc ?_ (by first | omega | (simp; done) | (simp; omega)) _ | refine Below.drew ?_ | refine Below.setCell ?_ (by first | omega | (simp; done) | (simp; omega)) _ | refine Below.trans ?_ (Below.mono (by assumption) (by first | omega | (simp; done) | (simp; omega)))))
          have t2 : Below v0.heap.size v0 v2 := t1.trans (j2.mono t1.size)
          replace hs5 := hs5.below j2
          replace hr5 := hr5.below j2
          replace p0 := below_cell j2 p0
          replace p1 := below_cell j2 p1
          replace p2 := below_cell j2 p2
          replace lp := Nat.lt_of_lt_of_le lp j2.size
          replace s6 := s6.below j2
          replace o6 := o6.below j2
          clear s6 o6
          go_wp2_with fail
          go_at_call 21
          refine (post_eq a c ar cr p _ hs5 hr5 SM na).mono ?_
          rintro e v3 ⟨⟨a7, c7, r7, d7, rfl, s7, o7⟩, b3⟩
          have j3 : Below v2.heap.size v2 v3 := by (repeat (first | exact Below.refl _ _ | refine Below.alloc ?_ (by first | omega | (simp; done) | (simp; omega)) _ | refine Below.drew ?_ | refine Below.setCell ?_ (by first | omega | (simp; done) | (simp; omega)) _ | refine Below.trans ?_ (Below.mono (by assumption) (by first | omega | (simp; done) | (simp; omega)))))
          have t3 : Below v0.heap.size v0 v3 := t2.trans (j3.mono t2.size)
          replace hs5 := hs5.below j3
          replace hr5 := hr5.below j3
          replace p0 := below_cell j3 p0
          replace p1 := below_cell j3 p1
          replace p2 := below_cell j3 p2
          replace lp := Nat.lt_of_lt_of_le lp j3.size
          go_wp2_with fail
          go_at_call 48
          refine (explain_eq a7 c7 r7 d7 p (some ⟨v3.heap.size, 0, none⟩) [⟨(k : Int), x, true⟩] 1 _ 0 tE2 n2 HE2 Ht2 Hn2 (s7.below (by (repeat (first | exact Below.refl _ _ | refine Below.alloc ?_ (by first | omega | (simp; done) | (simp; omega)) _ | refine Below.drew ?_ | refine Below.setCell ?_ (by first | omega | (simp; done) | (simp; omega)) _ | refine Below.trans ?_ (Below.mono (by assumption) (by first | omega | (simp; done) | (simp; omega))))))) (o7.below (by (repeat (first | exact Below.refl _ _ | refine Below.alloc ?_ (by first | omega | (simp; done) | (simp; omega)) _ | refine Below.drew ?_ | refine Below.setCell ?_ (by first | omega | (simp; done) | (simp; omega)) _ | refine Below.trans ?_ (Below.mono (by assumption) (by first | omega | (simp; done) | (simp; omega))))))) SM (ents1 v3 (k : Int) x true _) (by simp)).mono ?_
          rintro e v4 ⟨⟨e7, f7, rfl, _, _⟩, b4⟩
          have j4 : Below v3.heap.size v3 v4 := by (repeat (first | exact Below.refl _ _ | refine Below.alloc ?_ (by first | omega | (simp; done) | (simp; omega)) _ | refine Below.drew ?_ | refine Below.setCell ?_ (by first | omega | (simp; done) | (simp; omega)) _ | refine Below.trans ?_ (Below.mono (by assumption) (by first | omega | (simp; done) | (simp; omega)))))
          have t4 : Below v0.heap.size v0 v4 := t3.trans (j4.mono t3.size)
          replace hs5 := hs5.below j4
          replace hr5 := hr5.below j4
          replace p0 := below_cell j4 p0
          replace p1 := below_cell j4 p1
          replace p2 := below_cell j4 p2
          replace lp := Nat.lt_of_lt_of_le lp j4.size
          replace s7 := s7.below j4
          replace o7 := o7.below j4
          clear s7 o7
          go_wp2_with fail
          go_roundw
          case rel => exact ⟨i + 1, by omega, by go_num, bv.trans (t4.mono zv)⟩
          case measure => simp [intOf]; omega
        · have hB : (i : Int) < 2 := by omega
          have hD : decide ((i : Int) < 2) = true := by simp; omega
          go_wp2_with fail
          go_at_call 29
          refine (refIn_any _ _ _ _).mono ?_
          rintro e _ ⟨rfl, rfl⟩
          rw [hin]
          go_wp2_with fail
          go_at_call 21
          refine (post_eq a c ar cr p _ hs5 hr5 SM na).mono ?_
          rintro e v1 ⟨⟨a6, c6, r6, d6, rfl, s6, o6⟩, b1⟩
          have t1 : Below v0.heap.size v0 v1 := by (repeat (first | exact Below.refl _ _ | refine Below.alloc ?_ (by first | omega | (simp; done) | (simp; omega)) _ | refine Below.drew ?_ | refine Below.setCell ?_ (by first | omega | (simp; done) | (simp; omega)) _ | refine Below.trans ?_ (Below.mono (by assumption) (by first | omega | (simp; done) | (simp; omega)))))
          replace hs5 := hs5.below t1
          replace hr5 := hr5.below t1
          replace p0 := below_cell t1 p0
          replace p1 := below_cell t1 p1
          replace p2 := below_cell t1 p2
          replace lp := Nat.lt_of_lt_of_le lp t1.size
          go_wp2_with fail
          go_at_call 48
          refine (explain_eq a6 c6 r6 d6 p (some ⟨v1.heap.size, 0, none⟩) [⟨(k : Int), x, false⟩] 1 _ 0 tE1 n1 HE1 Ht1 Hn1 (s6.below (by (repeat (first | exact Below.refl _ _ | refine Below.alloc ?_ (by first | omega | (simp; done) | (simp; omega)) _ | refine Below.drew ?_ | refine Below.setCell ?_ (by first | omega | (simp; done) | (simp; omega)) _ | refine Below.trans ?_ (Below.mono (by assumption) (by first | omega | (simp; done) | (simp; omega))))))) (o6.below (by (repeat (first | exact Below.refl _ _ | refine Below.alloc ?_ (by first | omega | (simp; done) | (simp; omega)) _ | refine Below.drew ?_ | refine Below.setCell ?_ (by first | omega | (simp; done) | (simp; omega)) _ | refine Below.trans ?_ (Below.mono (by assumption) (by first | omega | (simp; done) | (simp; omega))))))) SM (ents1 v1 (k : Int) x false _) (by simp)).mono ?_
          rintro e v2 ⟨⟨e6, f6, rfl, _, _⟩, b2⟩
          have j2 : Below v1.heap.size v1 v2 := by (repeat (first | exact Below.refl _ _ | refine Below.alloc ?_ (by first | omega | (simp; done) | (simp; omega)) _ | refine Below.drew ?_ | refine Below.setCell ?_ (by first | omega | (simp; done) | (simp; omega)) _ | refine Below.trans ?_ (Below.mono (by assumption) (by first | omega | (simp; done) | (simp; omega)))))
          have t2 : Below v0.heap.size v0 v2 := t1.trans (j2.mono t1.size)
          replace hs5 := hs5.below j2
          replace hr5 := hr5.below j2
          replace p0 := below_cell j2 p0
          replace p1 := below_cell j2 p1
          replace p2 := below_cell j2 p2
          replace lp := Nat.lt_of_lt_of_le lp j2.size
          replace s6 := s6.below j2
          replace o6 := o6.below j2
          clear s6 o6
          go_wp2_with fail
          go_at_call 21
          refine (post_eq a c ar cr p _ hs5 hr5 SM na).mono ?_
          rintro e v3 ⟨⟨a7, c7, r7, d7, rfl, s7, o7⟩, b3⟩
          have j3 : Below v2.heap.size v2 v3 := by (repeat (first | exact Below.refl _ _ | refine Below.alloc ?_ (by first | omega | (simp; done) | (simp; omega)) _ | refine Below.drew ?_ | refine Below.setCell ?_ (by first | omega | (simp; done) | (simp; omega)) _ | refine Below.trans ?_ (Below.mono (by assumption) (by first | omega | (simp; done) | (simp; omega)))))
          have t3 : Below v0.heap.size v0 v3 := t2.trans (j3.mono t2.size)
          replace hs5 := hs5.below j3
          replace hr5 := hr5.below j3
          replace p0 := below_cell j3 p0
          replace p1 := below_cell j3 p1
          replace p2 := below_cell j3 p2
          replace lp := Nat.lt_of_lt_of_le lp j3.size
          go_wp2_with fail
          go_at_call 48
          refine (explain_eq a7 c7 r7 d7 p (some ⟨v3.heap.size, 0, none⟩) [⟨(k : Int), x, true⟩] 1 _ 9 tE2 n2 HE2 Ht2 Hn2 (s7.below (by (repeat (first | exact Below.refl _ _ | refine Below.alloc ?_ (by first | omega | (simp; done) | (simp; omega)) _ | refine Below.drew ?_ | refine Below.setCell ?_ (by first | omega | (simp; done) | (simp; omega)) _ | refine Below.trans ?_ (Below.mono (by assumption) (by first | omega | (simp; done) | (simp; omega))))))) (o7.below (by (repeat (first | exact Below.refl _ _ | refine Below.alloc ?_ (by first | omega | (simp; done) | (simp; omega)) _ | refine Below.drew ?_ | refine Below.setCell ?_ (by first | omega | (simp; done) | (simp; omega)) _ | refine Below.trans ?_ (Below.mono (by assumption) (by first | omega | (simp; done) | (simp; omega))))))) SM (ents1 v3 (k : Int) x true _) (by simp)).mono ?_
          rintro e v4 ⟨⟨e7, f7, rfl, _, _⟩, b4⟩
          have j4 : Below v3.heap.size v3 v4 := by (repeat (first | exact Below.refl _ _ | refine Below.alloc ?_ (by first | omega | (simp; done) | (simp; omega)) _ | refine Below.drew ?_ | refine Below.setCell ?_ (by first | omega | (simp; done) | (simp; omega)) _ | refine Below.trans ?_ (Below.mono (by assumption) (by first | omega | (simp; done) | (simp; omega)))))
          have t4 : Below v0.heap.size v0 v4 := t3.trans (j4.mono t3.size)
          replace hs5 := hs5.below j4
          replace hr5 := hr5.below j4
          replace p0 := below_cell j4 p0
          replace p1 := below_cell j4 p1
          replace p2 := below_cell j4 p2
          replace lp := Nat.lt_of_lt_of_le lp j4.size
          replace s7 := s7.below j4
          replace o7 := o7.below j4
          clear s7 o7
          go_wp2_with fail
          go_roundw
          case rel => exact ⟨i + 1, by omega, by go_num, bv.trans (t4.mono zv)⟩
          case measure => simp [intOf]; omega
        · have hB : (i : Int) < 2 := by omega
          have hD : decide ((i : Int) < 2) = true := by simp; omega
          go_wp2_with fail
          go_at_call 29
          refine (refIn_any _ _ _ _).mono ?_
          rintro e _ ⟨rfl, rfl⟩
          rw [hin]
          go_wp2_with fail
          go_at_call 21
          refine (post_eq a c ar cr p _ hs5 hr5 SM na).mono ?_
          rintro e v1 ⟨⟨a6, c6, r6, d6, rfl, s6, o6⟩, b1⟩
          have t1 : Below v0.heap.size v0 v1 := by (repeat (first | exact Below.refl _ _ | refine Below.alloc ?_ (by first | omega | (simp; done) | (simp; omega)) _ | refine Below.drew ?_ | refine Below.setCell ?_ (by first | omega | (simp; done) | (simp; omega)) _ | refine Below.trans ?_ (Below.mono (by assumption) (by first | omega | (simp; done) | (simp; omega)))))
          replace hs5 := hs5.below t1
          replace hr5 := hr5.below t1
          replace p0 := below_cell t1 p0
          replace p1 := below_cell t1 p1
          replace p2 := below_cell t1 p2
          replace lp := Nat.lt_of_lt_of_le lp t1.size
          go_wp2_with fail
          go_at_call 48
          refine (explain_eq a6 c6 r6 d6 p (some ⟨v1.heap.size, 0, none⟩) [⟨(k : Int), x, false⟩] 1 _ 9 tE1 n1 HE1 Ht1 Hn1 (s6.below (by (repeat (first | exact Below.refl _ _ | refine Below.alloc ?_ (by first | omega | (simp; done) | (simp; omega)) _ | refine Below.drew ?_ | refine Below.setCell ?_ (by first | omega | (simp; done) | (simp; omega)) _ | refine Below.trans ?_ (Below.mono (by assumption) (by first | omega | (simp; done) | (simp; omega))))))) (o6.below (by (repeat (first | exact Below.refl _ _ | refine Below.alloc ?_ (by first | omega | (simp; done) | (simp; omega)) _ | refine Below.drew ?_ | refine Below.setCell ?_ (by first | omega | (simp; done) | (simp; omega)) _ | refine Below.trans ?_ (Below.mono (by assumption) (by first | omega | (simp; done) | (simp; omega))))))) SM (ents1 v1 (k : Int) x false _) (by simp)).mono ?_
          rintro e v2 ⟨⟨e6, f6, rfl, _, _⟩, b2⟩
          have j2 : Below v1.heap.size v1 v2 := by (repeat (first | exact Below.refl _ _ | refine Below.alloc ?_ (by first | omega | (simp; done) | (simp; omega)) _ | refine Below.drew ?_ | refine Below.setCell ?_ (by first | omega | (simp; done) | (simp; omega)) _ | refine Below.trans ?_ (Below.mono (by assumption) (by first | omega | (simp; done) | (simp; omega)))))
          have t2 : Below v0.heap.size v0 v2 := t1.trans (j2.mono t1.size)
          replace hs5 := hs5.below j2
          replace hr5 := hr5.below j2
          replace p0 := below_cell j2 p0
          replace p1 := below_cell j2 p1
          replace p2 := below_cell j2 p2
          replace lp := Nat.lt_of_lt_of_le lp j2.size
          replace s6 := s6.below j2
          replace o6 := o6.below j2
          clear s6 o6
          go_wp2_with fail
          go_at_call 21
          refine (post_eq a c ar cr p _ hs5 hr5 SM na).mono ?_
          rintro e v3 ⟨⟨a7, c7, r7, d7, rfl, s7, o7⟩, b3⟩
          have j3 : Below v2.heap.size v2 v3 := by (repeat (first | exact Below.refl _ _ | refine Below.alloc ?_ (by first | omega | (simp; done) | (simp; omega)) _ | refine Below.drew ?_ | refine Below.setCell ?_ (by first | omega | (simp; done) | (simp; omega)) _ | refine Below.trans ?_ (Below.mono (by assumption) (by first | omega | (simp; done) | (simp; omega)))))
          have t3 : Below v0.heap.size v0 v3 := t2.trans (j3.mono t2.size)
          replace hs5 := hs5.below j3
          replace hr5 := hr5.below j3
          replace p0 := below_cell j3 p0
          replace p1 := below_cell j3 p1
          replace p2 := below_cell j3 p2
          replace lp := Nat.lt_of_lt_of_le lp j3.size
          go_wp2_with fail
          go_at_call 48
          refine (explain_eq a7 c7 r7 d7 p (some ⟨v3.heap.size, 0, none⟩) [⟨(k : Int), x, true⟩] 1 _ 0 tE2 n2 HE2 Ht2 Hn2 (s7.below (by (repeat (first | exact Below.refl _ _ | refine Below.alloc ?_ (by first | omega | (simp; done) | (simp; omega)) _ | refine Below.drew ?_ | refine Below.setCell ?_ (by first | omega | (simp; done) | (simp; omega)) _ | refine Below.trans ?_ (Below.mono (by assumption) (by first | omega | (simp; done) | (simp; omega))))))) (o7.below (by (repeat (first | exact Below.refl _ _ | refine Below.alloc ?_ (by first | omega | (simp; done) | (simp; omega)) _ | refine Below.drew ?_ | refine Below.setCell ?_ (by first | omega | (simp; done) | (simp; omega)) _ | refine Below.trans ?_ (Below.mono (by assumption) (by first | omega | (simp; done) | (simp; omega))))))) SM (ents1 v3 (k : Int) x true _) (by simp)).mono ?_
          rintro e v4 ⟨⟨e7, f7, rfl, _, _⟩, b4⟩
          have j4 : Below v3.heap.size v3 v4 := by (repeat (first | exact Below.refl _ _ | refine Below.alloc ?_ (by first | omega | (simp; done) | (simp; omega)) _ | refine Below.drew ?_ | refine Below.setCell ?_ (by first | omega | (simp; done) | (simp; omega)) _ | refine Below.trans ?_ (Below.mono (by assumption) (by first | omega | (simp; done) | (simp; omega)))))
          have t4 : Below v0.heap.size v0 v4 := t3.trans (j4.mono t3.size)
          replace hs5 := hs5.below j4
          replace hr5 := hr5.below j4
          replace p0 := below_cell j4 p0
          replace p1 := below_cell j4 p1
          replace p2 := below_cell j4 p2
          replace lp := Nat.lt_of_lt_of_le lp j4.size
          replace s7 := s7.below j4
          replace o7 := o7.below j4
          clear s7 o7
          go_wp2_with fail
          go_roundw
          case rel => exact ⟨i + 1, by omega, by go_num, bv.trans (t4.mono zv)⟩
          case measure => simp [intOf]; omega
        · have hB : ¬ ((i : Int) < 2) := by omega
          have hD : decide ((i : Int) < 2) = false := by simp; omega
          go_wp2_with fail
          go_at_call 29
          refine (refIn_any _ _ _ _).mono ?_
          rintro e _ ⟨rfl, rfl⟩
          rw [hin]
          go_wp2_with fail
          go_at_call 21
          refine (post_eq a c ar cr p _ hs5 hr5 SM na).mono ?_
          rintro e v1 ⟨⟨a6, c6, r6, d6, rfl, s6, o6⟩, b1⟩
          have t1 : Below v0.heap.size v0 v1 := by (repeat (first | exact Below.refl _ _ | refine Below.alloc ?_ (by first | omega | (simp; done) | (simp; omega)) _ | refine Below.drew ?_ | refine Below.setCell ?_ (by first | omega | (simp; done) | (simp; omega)) _ | refine Below.trans ?_ (Below.mono (by assumption) (by first | omega | (simp; done) | (simp; omega)))))
          replace hs5 := hs5.below t1
          replace hr5 := hr5.below t1
          replace p0 := below_cell t1 p0
          replace p1 := below_cell t1 p1
          replace p2 := below_cell t1 p2
          replace lp := Nat.lt_of_lt_of_le lp t1.size
          go_wp2_with fail
          go_at_call 48
          refine (explain_eq a6 c6 r6 d6 p (some ⟨v1.heap.size, 0, none⟩) [⟨(k : Int), x, false⟩] 1 _ 9 tE1 n1 HE1 Ht1 Hn1 (s6.below (by (repeat (first | exact Below.refl _ _ | refine Below.alloc ?_ (by first | omega | (simp; done) | (simp; omega)) _ | refine Below.drew ?_ | refine Below.setCell ?_ (by first | omega | (simp; done) | (simp; omega)) _ | refine Below.trans ?_ (Below.mono (by assumption) (by first | omega | (simp; done) | (simp; omega))))))) (o6.below (by (repeat (first | exact Below.refl _ _ | refine Below.alloc ?_ (by first | omega | (simp; done) | (simp; omega)) _ | refine Below.drew ?_ | refine Below.setCell ?_ (by first | omega | (simp; done) | (simp; omega)) _ | refine Below.trans ?_ (Below.mono (by assumption) (by first | omega | (simp; done) | (simp; omega))))))) SM (ents1 v1 (k : Int) x false _) (by simp)).mono ?_
          rintro e v2 ⟨⟨e6, f6, rfl, _, _⟩, b2⟩
          have j2 : Below v1.heap.size v1 v2 := by (repeat (first | exact Below.refl _ _ | refine Below.alloc ?_ (by first | omega | (simp; done) | (simp; omega)) _ | refine Below.drew ?_ | refine Below.setCell ?_ (by first | omega | (simp; done) | (simp; omega)) _ | refine Below.trans ?_ (Below.mono (by assumption) (by first | omega | (simp; done) | (simp; omega)))))
          have t2 : Below v0.heap.size v0 v2 := t1.trans (j2.mono t1.size)
          replace hs5 := hs5.below j2
          replace hr5 := hr5.below j2
          replace p0 := below_cell j2 p0
          replace p1 := below_cell j2 p1
          replace p2 := below_cell j2 p2
          replace lp := Nat.lt_of_lt_of_le lp j2.size
          replace s6 := s6.below j2
          replace o6 := o6.below j2
          clear s6 o6
          go_wp2_with fail
          go_at_call 21
          refine (post_eq a c ar cr p _ hs5 hr5 SM na).mono ?_
          rintro e v3 ⟨⟨a7, c7, r7, d7, rfl, s7, o7⟩, b3⟩
          have j3 : Below v2.heap.size v2 v3 := by (repeat (first | exact Below.refl _ _ | refine Below.alloc ?_ (by first | omega | (simp; done) | (simp; omega)) _ | refine Below.drew ?_ | refine Below.setCell ?_ (by first | omega | (simp; done) | (simp; omega)) _ | refine Below.trans ?_ (Below.mono (by assumption) (by first | omega | (simp; done) | (simp; omega)))))
          have t3 : Below v0.heap.size v0 v3 := t2.trans (j3.mono t2.size)
          replace hs5 := hs5.below j3
          replace hr5 := hr5.below j3
          replace p0 := below_cell j3 p0
          replace p1 := below_cell j3 p1
          replace p2 := below_cell j3 p2
          replace lp := Nat.lt_of_lt_of_le lp j3.size
          go_wp2_with fail
          go_at_call 48
          refine (explain_eq a7 c7 r7 d7 p (some ⟨v3.heap.size, 0, none⟩) [⟨(k : Int), x, true⟩] 1 _ 9 tE2 n2 HE2 Ht2 Hn2 (s7.below (by (repeat (first | exact Below.refl _ _ | refine Below.alloc ?_ (by first | omega | (simp; done) | (simp; omega)) _ | refine Below.drew ?_ | refine Below.setCell ?_ (by first | omega | (simp; done) | (simp; omega)) _ | refine Below.trans ?_ (Below.mono (by assumption) (by first | omega | (simp; done) | (simp; omega))))))) (o7.below (by (repeat (first | exact Below.refl _ _ | refine Below.alloc ?_ (by first | omega | (simp; done) | (simp; omega)) _ | refine Below.drew ?_ | refine Below.setCell ?_ (by first | omega | (simp; done) | (simp; omega)) _ | refine Below.trans ?_ (Below.mono (by assumption) (by first | omega | (simp; done) | (simp; omega))))))) SM (ents1 v3 (k : Int) x true _) (by simp)).mono ?_
          rintro e v4 ⟨⟨e7, f7, rfl, _, _⟩, b4⟩
          have j4 : Below v3.heap.size v3 v4 := by (repeat (first | exact Below.refl _ _ | refine Below.alloc ?_ (by first | omega | (simp; done) | (simp; omega)) _ | refine Below.drew ?_ | refine Below.setCell ?_ (by first | omega | (simp; done) | (simp; omega)) _ | refine Below.trans ?_ (Below.mono (by assumption) (by first | omega | (simp; done) | (simp; omega)))))
          have t4 : Below v0.heap.size v0 v4 := t3.trans (j4.mono t3.size)
          replace hs5 := hs5.below j4
          replace hr5 := hr5.below j4
          replace p0 := below_cell j4 p0
          replace p1 := below_cell j4 p1
          replace p2 := below_cell j4 p2
          replace lp := Nat.lt_of_lt_of_le lp j4.size
          replace s7 := s7.below j4
          replace o7 := o7.below j4
          clear s7 o7
          go_wp2_with fail
          go_roundw
          case rel => exact ⟨i + 1, by omega, by go_num, bv.trans (t4.mono zv)⟩
          case measure => simp [intOf]; omega
    · have hiI : ¬ ((i : Int) < 4) := by omega
      have p0 := below_cell hb q0
      go_wp2_with fail
      go_at_call 19
      refine (awake_any _).mono ?_
      rintro e x3 ⟨rfl, b3⟩
      go_wp2_with fail
      go_ret
      exact ⟨rfl, t3.trans ((hb.trans (b3.mono zb)).mono t3.size)⟩

theorem ends_walk (a : Option Addr) (c : Nat) (ar : Option Addr) (cr : Nat) (p : Post) (y : Int) (w : World) (hs : IntsAt w a p.sends) (hr : RoutesAt w ar p.routes) (na : a = none → c = 0) (big : PostBig p) (hy : (Lit.int .u8 y).wf = true) :
    Calls Try.prog 12 #[.agg #[.slice a p.sends.length c, .slice ar p.routes.length cr, .int .i64 p.pat], .int .u8 y] w fun e w' => e = .returned (.bool true) ∧ Below w.heap.size w w' := by
  cases hT : readyB p
  · exact ends_a1 a c ar cr p y w hs hr na big hy hT
  · exact ends_a2 a c ar cr p y w hs hr na big hy hT
end Go.Proofs.Ytfclemnkcpadpaa
