/- copies: Spans -/
import Derived.Test.YtfclemnkcpadpaaKo
namespace Go.Proofs.Ytfclemnkcpadpaa
set_option linter.unusedVariables false
set_option linter.unusedSimpArgs false
set_option linter.unnecessarySimpa false
open Go.RowKit Go.Flow Go.Shelf

def flat2 (xs : List (Int × Int)) : List Value := xs.flatMap fun x => [.int .i64 x.1, .int .i64 x.2]
theorem flat2_get : ∀ (xs : List (Int × Int)) (k : Nat) (h : k < xs.length), (flat2 xs)[k * 2]? = some (.int .i64 xs[k].1) ∧ (flat2 xs)[k * 2 + 1]? = some (.int .i64 xs[k].2)
  | x :: xs, 0, _ => by simp [flat2]
  | x :: xs, k + 1, h => by
    obtain ⟨a, b⟩ := flat2_get xs k (by simpa using h)
    have e : flat2 (x :: xs) = .int .i64 x.1 :: .int .i64 x.2 :: flat2 xs := by simp [flat2]
    rw [e, show (k + 1) * 2 = k * 2 + 2 by omega]
    exact ⟨a, b⟩
theorem flat2_snoc (xs : List (Int × Int)) (x : Int × Int) : flat2 (xs ++ [x]) = flat2 xs ++ [.int .i64 x.1, .int .i64 x.2] := by simp [flat2]
theorem flat2_take (xs : List (Int × Int)) (k : Nat) (h : k < xs.length) : flat2 (xs.take (k + 1)) = flat2 (xs.take k) ++ [.int .i64 xs[k].1, .int .i64 xs[k].2] := by
  rw [List.take_succ_eq_append_getElem h, flat2_snoc]
theorem OwnL.recs2 {T : TypeId} {base : Nat} {w : World} {a : Option Addr} {c n : Nat} {xs : List (Int × Int)} (h : OwnL T 2 base w a c n (flat2 xs)) : Recs2At w a xs := fun k hk => by
  rcases h.form with ⟨_, _, _, h4⟩ | ⟨g, rfl, _, hlt, _, _, _, hc⟩
  · have := (flat2_get xs k hk).1; rw [h4] at this; simp at this
  · obtain ⟨e0, e1⟩ := flat2_get xs k hk
    exact ⟨g, 0, rfl, hlt, by rw [Nat.zero_add]; exact hc _ _ e0, by rw [Nat.zero_add]; exact hc _ _ e1⟩


theorem info_crange : (Try.prog.info? 68).map (fun i => (i.zero, i.size, i.bytes)) = some (some (.agg #[.int .i64 0, .int .i64 0]), 2, 16) := by kernel_rfl
theorem el_cranges : Elem Try.prog 57 68 (.agg #[.int .i64 0, .int .i64 0]) 2 16 := ⟨Try.underlying57, info_parts info_crange, rfl, by decide⟩
def spanAt (p : Post) (i : Nat) : Int × Int := (finN p (earliestF p) (i + 1), finN p (latestF p) (i + 1))
def spansF (p : Post) (k : Nat) : List (Int × Int) := (List.range k).map (spanAt p)
theorem spansF_succ (p : Post) (k : Nat) : spansF p (k + 1) = spansF p k ++ [spanAt p k] := by simp [spansF, List.range_succ]
theorem spansF_len (p : Post) (k : Nat) : (spansF p k).length = k := by simp [spansF]
def spansOut (p : Post) : List (Int × Int) := if postErr p = 0 then spansF p p.sends.length else []
def RetRecs (E : Int) (l : List (Int × Int)) (e : Ending) (w' : World) : Prop := ∃ a c, e = .returned (.tuple #[.slice a l.length c, .int .i64 E]) ∧ Recs2At w' a l
theorem post_ne {p : Post} (h : postErr p = 0) {i : Nat} (hi : i < p.sends.length) : ∀ k, k < p.routes.length → hrList (hrF p i k) ≠ [] := fun k hk => by
  obtain ⟨h1, h2⟩ := post_hrs h hi hk
  exact hrList_ne (fun n hn => Nat.le_trans (h1 n hn) (by omega)) h2
theorem finLow {a : Option Addr} {c : Nat} {ar : Option Addr} {cr : Nat} {p : Post} {Bw i : Nat} {w : World} (hw : WorkAt p a c ar cr Bw w) (hs : IntsAt w a p.sends) (h0 : postErr p = 0) (hi : i < p.sends.length) :
    Calls Try.prog 75 #[.agg #[.func (.func 73) #[] #[]], .pointer (some ⟨Bw, 0, none⟩), .int .i64 i] w fun e w' => e = .returned (.int .i64 (spanAt p i).1) ∧ Below w.heap.size w w' := by
  obtain ⟨n4, r3, _⟩ := postErr_ok h0
  exact finish_any a c ar cr p Bw i _ (earliestF p) w hw hs hi n4 (post_hours h0) (enters Try.func73 (by kernel_rfl) rfl) (fun j hj W b => earliest_any a c ar cr p Bw j W (hw.below b) r3 hj n4 (post_ne h0 hj))
theorem finHigh {a : Option Addr} {c : Nat} {ar : Option Addr} {cr : Nat} {p : Post} {Bw i : Nat} {w : World} (hw : WorkAt p a c ar cr Bw w) (hs : IntsAt w a p.sends) (hr : RoutesAt w ar p.routes) (h0 : postErr p = 0) (hi : i < p.sends.length) :
    Calls Try.prog 75 #[.agg #[.func (.func 74) #[] #[]], .pointer (some ⟨Bw, 0, none⟩), .int .i64 i] w fun e w' => e = .returned (.int .i64 (spanAt p i).2) ∧ Below w.heap.size w w' := by
  obtain ⟨n4, r3, _⟩ := postErr_ok h0
  exact finish_any a c ar cr p Bw i _ (latestF p) w hw hs hi n4 (post_hours h0) (enters Try.func74 (by kernel_rfl) rfl) (fun j hj W b => latest_any a c ar cr p Bw j W (hw.below b) (hr.below b) r3 hj n4 (post_ne h0 hj))

set_option maxRecDepth 100000 in
set_option maxHeartbeats 4000000 in
theorem Spans_any (a : Option Addr) (c : Nat) (ar : Option Addr) (cr : Nat) (p : Post) (w : World) (hs : IntsAt w a p.sends) (hr : RoutesAt w ar p.routes) (sm : PostSmall p) :
    Calls Try.prog 32 #[.agg #[.slice a p.sends.length c, .slice ar p.routes.length cr, .int .i64 p.pat]] w fun e w' => RetRecs (postErr p) (spansOut p) e w' ∧ Below w.heap.size w w' := by
  have chk := fun W (b : Below w.heap.size w W) => checkPost_any a c ar cr p W (hs.below b) (hr.below b) sm
  have bd := postErr_bd p
  have C0 : Cells (w.alloc (.cells #[.slice a p.sends.length c, .slice ar p.routes.length cr, .int .i64 p.pat] 34)) w.heap.size #[.slice a p.sends.length c, .slice ar p.routes.length cr, .int .i64 p.pat] 34 := Cells.new _ _ _
  have t0 : Below w.heap.size w (w.alloc (.cells #[.slice a p.sends.length c, .slice ar p.routes.length cr, .int .i64 p.pat] 34)) := (Below.refl _ _).alloc (Nat.le_refl _) _
  by_cases h0 : postErr p = 0
  · have hO : spansOut p = spansF p p.sends.length := by unfold spansOut; rw [if_pos h0]
    rw [h0] at chk ⊢
    rw [hO]
    have wrk := fun W (b : Below w.heap.size w W) => work_any a c ar cr p W (hs.below b) (hr.below b) h0
    obtain ⟨n4, _⟩ := postErr_ok h0
    have H0 := Lib.hid h0
    clear h0 hO bd
    go_enter Try.func32, Try.ntmps32
    go_wp2_with fail
    go_at_call 20
    with_reducible refine (chk _ t0).mono ?_
    rintro e w1 ⟨rfl, hb1⟩
    have C1 := C0.below hb1
    have t1 : Below w.heap.size w w1 := t0.trans (hb1.mono t0.size)
    have k0 := C1.cell 0
    have k1 := C1.cell 1
    have k2 := C1.cell 2
    have lC := C1.lt
    simp at k0 k1 k2
    go_wp2_with fail
    go_at_call 70
    with_reducible refine (wrk _ t1).mono ?_
    rintro e w2 ⟨Bw, rfl, hBw, hW, hb2⟩
    have C2 := C1.below hb2
    have t2 : Below w.heap.size w w2 := t1.trans (hb2.mono t1.size)
    clear k0 k1 k2 lC C1 hb2 C0 chk wrk
    have k0 := C2.cell 0
    have lC := C2.lt
    simp at k0
    go_wp2
    obtain ⟨W3, hW3⟩ : ∃ z : World, z = ((w2.alloc (.cells #[.func (.func 73) #[] #[]] 134)).alloc (.cells #[.func (.func 74) #[] #[]] 134)) := ⟨_, rfl⟩
    have b3 : Below w2.heap.size w2 W3 := by rw [hW3]; exact ((Below.refl _ _).alloc (Nat.le_refl _) _).alloc (by simp) _
    have z3 : W3.heap.size = w2.heap.size + 2 := by rw [hW3]; simp
    have cE : Cells W3 w2.heap.size #[.func (.func 73) #[] #[]] 134 := by rw [hW3]; exact (Cells.new _ _ _).alloc _
    have cF : Cells W3 (w2.heap.size + 1) #[.func (.func 74) #[] #[]] 134 := by rw [hW3]; exact Cells.new' _ _ _ _ (by simp)
    rw [← hW3]
    clear hW3
    have t3 : Below w.heap.size w W3 := t2.trans (b3.mono t2.size)
    have hW3 := hW.below b3
    clear hW C2 k0 lC
    go_loopw [8, 22] (fun v o wr => ∃ (k : Nat) (ao : Option Addr) (co : Nat), k ≤ p.sends.length ∧ o = .int .i64 k ∧ v = .slice ao k co ∧ OwnL 68 2 W3.heap.size wr ao co k (flat2 (spansF p k)) ∧ Below W3.heap.size W3 wr) (fun _ o _ => p.sends.length - (intOf o).toNat)
    case atStart => exact ⟨0, none, 0, Nat.zero_le _, rfl, rfl, OwnL.nil _ _ _ _, Below.refl _ _⟩
    case round =>
      obtain ⟨k, ao, co, hk, rfl, rfl, hown, hb⟩ := hrel
      by_cases hkl : k < p.sends.length
      · have cEr := cE.below hb
        have cFr := cF.below hb
        have e0 := cEr.cell 0
        have f0 := cFr.cell 0
        have lE := cEr.lt
        have lF := cFr.lt
        simp at e0 f0
        have hWr := hW3.below hb
        have tr := t3.trans (hb.mono t3.size)
        have hL : ∀ W, Below wr.heap.size wr W → _ := fun W b => finLow (hWr.below b) (hs.below (tr.trans (b.mono tr.size))) H0.out hkl
        have hH : ∀ W, Below wr.heap.size wr W → _ := fun W b => finHigh (hWr.below b) (hs.below (tr.trans (b.mono tr.size))) (hr.below (tr.trans (b.mono tr.size))) H0.out hkl
        have Hs := Lib.hid (spansF_succ p k)
        obtain ⟨y, hy⟩ : ∃ y, (spanAt p k).1 = y := ⟨_, rfl⟩
        obtain ⟨z, hz⟩ : ∃ z, (spanAt p k).2 = z := ⟨_, rfl⟩
        rw [hy] at hL
        rw [hz] at hH
        have Hyz : Hid (spanAt p k = (y, z)) := Lib.hid (by rw [← hy, ← hz])
        have lz := hb.size
        clear hy hz cEr cFr
        go_wp2
        (refine wp_region_seq 11 [] [11, 12] 39 [true, true, true, true, true, true, true, true, true, true, false] [LitV W3.heap.size 1 #[.int .i64 y, .int .i64 z] 68] (by kernel_rfl) (by kernel_rfl) rfl (mono_cons (fun v w w' h hb => h.kept hb) mono_nil) ?_; simp only [pickOps, List.filterMap_cons, List.filterMap_nil, List.getElem?_toArray, List.getElem?_cons_succ, List.getElem?_cons_zero]; (repeat (refine wpFl_step _ rfl (fun w => (by go_simp; rfl)) ?_)); refine wpFl_nil ?_; simp only [maskOps, dummy, Act.put, List.setIfInBounds_toArray, List.set_cons_zero, List.set_cons_succ, List.take_succ_cons, List.take_zero, List.drop_succ_cons, List.drop_zero]; (repeat (refine wpQB_step (fun K hK => ?_); go_simp; first | (refine hK _ ?_; clear hK K) | (apply Exists.intro; refine ⟨fun ex => ?_, hK _ ?_⟩; ((go_at_call 75; first | (with_reducible exact hL _ ex.below) | (with_reducible exact hH _ ex.below))); clear hK K))); refine wpQB_nil ?_; simp only [relObl2, under, relEnd, and_true, List.nil_append, List.cons_append])
        refine ⟨?_, ?_⟩
        · intro e
          go_simp
          exact ⟨(Below.refl _ _).alloc (Nat.le_refl _) _, e.to.heap.size, rfl, by have := e.size; omega, Cells.new _ _ _⟩
        · intro e
          rintro v1 ⟨gg, rfl, hg1, hgg⟩
          simp only [Act.put, List.setIfInBounds_toArray, List.set_cons_zero, List.set_cons_succ]
          have heb := e.below
          obtain ⟨w5, hw5⟩ : ∃ x : World, x = e.to := ⟨_, rfl⟩
          rw [← hw5] at heb hgg ⊢
          clear hw5 e hL hH
          have own5 := hown.kept heb
          have z5 := heb.size
          refine wpList_app el_cranges rfl _ _ rfl W3.heap.size ao k co _ rfl own5 (some ⟨gg, 0, none⟩) 1 1 [.int .i64 y, .int .i64 z] rfl (fun h => by cases h) rfl hgg.src (fun u hu => by simp at hu; rcases hu with rfl | rfl <;> rfl) (by unfold maxLen; omega) (by omega) (by omega) ?_
          intro a6 c6 w6 hown6 hb6
          go_wp2
          go_roundw
          case rel => exact ⟨k + 1, a6, c6, by omega, by go_num, rfl, by rw [Hs.out, Hyz.out, flat2_snoc]; exact hown6, (hb.trans (heb.mono lz)).trans hb6⟩
          case measure => simp [intOf]; omega
      · obtain rfl : k = p.sends.length := by omega
        go_wp2
        go_ret2
        exact ⟨⟨ao, co, by rw [spansF_len]; rfl, hown.recs2⟩, t3.trans (hb.mono t3.size)⟩
  · have hO : spansOut p = [] := by unfold spansOut; rw [if_neg h0]
    rw [hO]
    obtain ⟨E, hEe⟩ : ∃ E, postErr p = E := ⟨_, rfl⟩
    rw [hEe] at chk bd h0 ⊢
    have hne : (E != 0) = true := by simpa using h0
    clear h0 hO hEe
    go_enter Try.func32, Try.ntmps32
    go_wp2_with fail
    go_at_call 20
    with_reducible refine (chk _ t0).mono ?_
    rintro e w1 ⟨rfl, hb1⟩
    have t1 : Below w.heap.size w w1 := t0.trans (hb1.mono t0.size)
    go_wp2_with fail
    go_ret2
    exact ⟨⟨none, 0, rfl, Recs2At.nil _ _⟩, t1⟩
end Go.Proofs.Ytfclemnkcpadpaa
