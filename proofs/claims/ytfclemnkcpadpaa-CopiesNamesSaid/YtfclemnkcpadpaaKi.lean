/- copies: the list of a set, its first and its last hour -/
import Derived.Test.YtfclemnkcpadpaaKh
import Derived.RangeFuncBox
import Derived.Maps.AppendAt
namespace Go.Proofs.Ytfclemnkcpadpaa
set_option linter.unusedVariables false
set_option linter.unusedSimpArgs false
set_option linter.unnecessarySimpa false
open Go.RowKit Go.Flow Go.Shelf
attribute [local go_sem] Oper.semAt_some

theorem info_int : (Try.prog.info? 3).map (fun i => (i.zero, i.size, i.bytes)) = some (some (.int .i64 0), 1, 8) := by kernel_rfl
theorem elInt : Elem Try.prog 22 3 (.int .i64 0) 1 8 := ⟨Try.underlying22, info_parts info_int, rfl, by decide⟩
def hvals (f : Hrs) (l : List (HV f)) : List Value := l.map fun x => .int .i64 x.1

set_option maxRecDepth 100000 in
set_option maxHeartbeats 2000000 in
theorem collectInto_any (Pb Sb : Nat) (f : Hrs) (L : List (HV f)) (HL : Hid (hvs f 101 (Nat.le_refl _) = L)) (w : World) (hP : w.cell? ⟨Pb, 0, none⟩ = some (.pointer (some ⟨Sb, 0, none⟩))) (hS : SetC w Sb f) :
    Calls Try.prog 122 #[.slice none 0 0, .func (.func 119) #[] #[.pointer (some ⟨Pb, 0, none⟩)]] w fun e w' => ∃ v, e = .returned v ∧ w'.ownsRow w.heap.size 3 1 v L.length (hvals f L) ∧ Below w.heap.size w w' := by
  obtain ⟨i0, hi, hz0, hz1, hz2⟩ := info_parts info_int
  have lP := cell_ltK hP
  have lS := hS.lt
  have hB0 : Below w.heap.size w (w.alloc (.cells #[.slice none 0 0] 22)) := (Below.refl _ w).alloc (Nat.le_refl _) _
  have bO := Boxed.new w 22 (.slice none 0 0)
  have hP1 := below_cell hB0 hP
  have hS1 := hS.below hB0
  clear hP hS
  refine (callsIn_wide (n := 5)).1 ?_
  refine callsIn_of_wp_marks Try.func122 rfl trivial ?_ rfl
  simp only [Try.ntmps122, List.size_toArray, List.length_cons, List.length_nil, Nat.reduceAdd, Nat.reduceSub, Array.replicate_succ, Array.replicate_zero, List.push_toArray, List.append_toArray, List.nil_append, List.cons_append]
  gi_wp2
  obtain ⟨w1, hw1⟩ : ∃ z : World, z = w.alloc (.cells #[.slice none 0 0] 22) := ⟨_, rfl⟩
  have z1 : w1.heap.size = w.heap.size + 1 := by rw [hw1]; simp
  rw [← hw1] at bO hP1 hS1 hB0 ⊢
  clear hw1
  refine wpIn_rangeFunc_ownG rfl (by omega) (gf := 119) (lb := #[.pointer (some ⟨Pb, 0, none⟩)]) rfl trivial (enters_of Try.func119 (by kernel_rfl) rfl)
    (each_stops 4 (by omega) w.heap.size w.heap.size Pb Sb f w1 hP1 hS1 lP lS (by omega) (by omega)) KX.trans (fun W l o o' _ h ho _ => KX.putObj W l o o' h ho) (Below.refl _ _) (fun _ => rfl)
    (fun pre W => (∃ v, Boxed W w.heap.size 22 v ∧ W.ownsRow w.heap.size 3 1 v pre.length (hvals f pre) ∧ True) ∧ Below w.heap.size w W)
    (fun _ _ _ => False)
    (OwnFrom.and (Own.from (holdsRow_own w.heap.size w.heap.size 22 3 1 (fun pre => pre.length) (fun pre => hvals f pre) (fun _ _ => True)) _) (ownFrom_below (Nat.le_refl _) (by omega)))
    (fun _ _ _ _ _ hs _ _ => hs)
    ⟨⟨_, bO, World.ownsRow_nil _ _ _ _, trivial⟩, hB0⟩
    (fun x => { tmps := #[.slice none 0 0, .func (.func 119) #[] #[.pointer (some ⟨Pb, 0, none⟩)], .pointer (some ⟨w.heap.size, 0, none⟩), undef, .slice none 0 0, .int .i64 x.1, .func (.func 119) #[] #[.pointer (some ⟨Pb, 0, none⟩)], .int .i64 x.1, undef, undef, undef, undef, undef], defers := [] }) ?assign ?body ?done ?stop
  case assign =>
    intro l x W K hK
    unfold encH
    gi_wp2
    exact hK
  case body =>
    rintro l pre x W ⟨⟨v, hv, hrow, _⟩, hB⟩ hlt
    have hc := hv.cell
    gi_wp2_with (gi_at_builtin; refine wpListIn_append_own _ rfl _ _ 22 rfl w.heap.size 3 i0 (.int .i64 0) 1 8 Try.underlying22 hi hz0 hz1 hz2 rfl (by decide) _ _ _ rfl (hrow.alloc _) ⟨W.heap.size, 0, none⟩ 1 1 [.int .i64 x.1] rfl rfl (cell_one_new _ _ _) (by simp [Value.oneCell']) (by unfold maxLen; omega) (by omega) (by have := hB.size; simp; omega) ?_; intro v' w2 hown' hgrow _; obtain ⟨g', cap', rfl⟩ := ownsRow_succ hown'; obtain ⟨hv1, hv2, hr2, hk2, hb2⟩ := hv.appended (by decide) hrow hB.size (Nat.le_refl _) hown' hgrow; have hc1 := hv1.cell; have hf1 := hv1.frozen)
    exact ⟨hk2.from _, KX.below' hb2, ⟨_, hv2, by simpa [hvals] using hr2, trivial⟩, hB.trans hb2⟩
  case done =>
    intro D ys W hD hys hI hK
    have hyl : ys = L := hys.trans HL.out
    clear hys
    subst hyl
    obtain ⟨⟨v, hv, hrow, _⟩, hB⟩ := hI
    have hc := hv.cell
    gi_wp2
    refine ⟨by simp, .inl ⟨_, _, rfl, run_takeDeferred hK, ?_⟩⟩
    exact ⟨_, results_tmp rfl _ _ _, v, rfl, ownsRow_putObj hrow _ hK rfl, hB.trans (belowK_b (w := w) (Nat.le_refl _) W D _ _ (by omega) hK rfl rfl)⟩
  case stop =>
    rintro D c pre W _ _ h _
    exact h.elim

theorem hrList_eq (f : Hrs) : hrList f = (hvs f 101 (Nat.le_refl _)).map (fun x => (x.1 : Int)) := by
  unfold hrList
  rw [← hvs_map f 101 (Nat.le_refl _), List.map_map]
  rfl
theorem hrList_len (f : Hrs) : (hrList f).length ≤ 101 := by rw [hrList_eq, List.length_map]; exact hvs_len f 101 _
theorem own_slice {E : TypeId} {size base n : Nat} {w : World} {v : Value} {xs : List Value} (h : w.ownsRow base E size v n xs) : ∃ a c, v = .slice a n c := by
  rcases h.2 with ⟨rfl, hn⟩ | ⟨g, cap, cur, rfl, _⟩
  · exact ⟨none, 0, by rw [hn]⟩
  · exact ⟨_, _, rfl⟩
/-- The hours as a list of their own. -/
theorem collectSeq_any (Pb Sb : Nat) (f : Hrs) (l : List Int) (Hl : Hid (hrList f = l)) (w : World) (hP : w.cell? ⟨Pb, 0, none⟩ = some (.pointer (some ⟨Sb, 0, none⟩))) (hS : SetC w Sb f) :
    Calls Try.prog 102 #[.func (.func 119) #[] #[.pointer (some ⟨Pb, 0, none⟩)]] w fun e w' => (∃ a c, e = .returned (.slice a l.length c) ∧ OwnL 3 1 w.heap.size w' a c l.length (l.map (Value.int .i64))) ∧ Below w.heap.size w w' := by
  have hc := collectInto_any Pb Sb f _ (Lib.hid rfl) w hP hS
  have hl2 : hvals f (hvs f 101 (Nat.le_refl _)) = l.map (Value.int .i64) := by rw [← Hl.out, hrList_eq, List.map_map]; rfl
  have hn : (hvs f 101 (Nat.le_refl _)).length = l.length := by rw [← Hl.out, hrList_eq, List.length_map]
  rw [hl2, hn] at hc
  clear hl2 hn
  go_enter Try.func102, Try.ntmps102
  go_wp2_with (go_at_call 122; (with_reducible refine hc.mono ?_); rintro e w1 ⟨v, rfl, ho, hb⟩; obtain ⟨a, c, rfl⟩ := own_slice ho)
  go_ret
  exact ⟨⟨a, c, rfl, ho⟩, hb⟩
theorem list_any (Sb : Nat) (f : Hrs) (l : List Int) (Hl : Hid (hrList f = l)) (w : World) (hS : SetC w Sb f) :
    Calls Try.prog 71 #[.pointer (some ⟨Sb, 0, none⟩)] w fun e w' => (∃ a c, e = .returned (.slice a l.length c) ∧ OwnL 3 1 w.heap.size w' a c l.length (l.map (Value.int .i64))) ∧ Below w.heap.size w w' := by
  have b0 : Below w.heap.size w (w.alloc (.cells #[.pointer (some ⟨Sb, 0, none⟩)] 121)) := (Below.refl _ _).alloc (Nat.le_refl _) _
  have hP : (w.alloc (.cells #[.pointer (some ⟨Sb, 0, none⟩)] 121)).cell? ⟨w.heap.size, 0, none⟩ = some (.pointer (some ⟨Sb, 0, none⟩)) := by rw [World.cell?_alloc_at _ _ _ _ rfl]; rfl
  have hc := collectSeq_any w.heap.size Sb f l Hl _ hP (hS.below b0)
  have he : Calls Try.prog 100 #[.pointer (some ⟨Sb, 0, none⟩)] w fun e w' => e = .returned (.func (.func 119) #[] #[.pointer (some ⟨w.heap.size, 0, none⟩)]) ∧ w.alloc (.cells #[.pointer (some ⟨Sb, 0, none⟩)] 121) = w' := by
    go_enter Try.func100, Try.ntmps100
    go_wp2
    go_ret
    exact ⟨rfl, rfl⟩
  clear hP hS
  go_enter Try.func71, Try.ntmps71
  go_wp2_with (first
    | (go_at_call 100; (with_reducible refine he.mono ?_); rintro e w1 ⟨rfl, rfl⟩)
    | (go_at_call 102; (with_reducible refine hc.mono ?_); rintro e w1 ⟨⟨a, c, rfl, ho⟩, hb⟩))
  go_ret
  exact ⟨⟨a, c, rfl, ho.base_le (by simp)⟩, b0.trans (hb.mono (by simp))⟩
def lastH (f : Hrs) : Int := (hrList f).getD ((hrList f).length - 1) 0
def firstH (f : Hrs) : Int := (hrList f).getD 0 0
theorem last_any (Sb : Nat) (f : Hrs) (x : Int) (Hx : Hid (lastH f = x)) (w : World) (hS : SetC w Sb f) (hne : hrList f ≠ []) :
    Calls Try.prog 103 #[.pointer (some ⟨Sb, 0, none⟩)] w fun e w' => e = .returned (.int .i64 x) ∧ Below w.heap.size w w' := by
  have hlen := hrList_len f
  have hpos : 0 < (hrList f).length := List.length_pos_iff.2 hne
  have hx : (hrList f).getD ((hrList f).length - 1) 0 = x := Hx.out
  have hl := list_any Sb f _ (Lib.hid rfl) w hS
  generalize hrList f = l at hlen hpos hx hl
  have Hx' := Lib.hid hx
  have hsub : ((l.length - 1 : Nat) : Int) = (l.length : Int) - 1 := by omega
  clear hx hne
  obtain ⟨m, hm⟩ : ∃ m, l.length = m + 1 := ⟨l.length - 1, by omega⟩
  have Hm := Lib.hid hm
  rw [hm] at hl
  have hm2 : m ≤ 100 := by omega
  clear hm hsub hpos hlen
  go_enter Try.func103, Try.ntmps103
  go_wp2_with fail
  go_at_call 71
  with_reducible refine hl.mono ?_
  rintro e w1 ⟨⟨a, c, rfl, ho⟩, hb⟩
  obtain ⟨b, off, rfl, hbl, hc⟩ := ho.ints.1 m (by rw [Hm.out]; omega)
  have hc' : w1.cell? ⟨b, off + m, none⟩ = some (.int .i64 x) := by rw [hc, ← Hx'.out, Hm.out]; simp
  clear hc
  go_wp2_with fail
  go_ret
  exact ⟨rfl, hb⟩
end Go.Proofs.Ytfclemnkcpadpaa
