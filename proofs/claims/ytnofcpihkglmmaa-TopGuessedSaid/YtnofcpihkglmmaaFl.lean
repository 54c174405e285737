/- flash: checkSigns of valid signs; texts; Texts -/
import Derived.Test.YtnofcpihkglmmaaFk
import Derived.Test.YtnofcpihkglmmaaFc
namespace Go.Proofs.Ytnofcpihkglmmaa
set_option linter.unusedVariables false
set_option linter.unusedSimpArgs false
set_option linter.unnecessarySimpa false
open Go.RowKit Go.Flow
theorem f2_load_list (w : World) (B : Nat) (v : Value) (h : w.cell? ⟨B, 0, none⟩ = some v) : (loadVar 61 ⟨B, 0, none⟩).run Try.prog w = .ok v w := by
  go_simp
theorem short_meets (w : World) (x : ByteArray) : Meets Try.prog w 71 #[] #[] (.string x) (decide ((x.size : Int) ≤ 40)) := by
  intro w1 hb
  show Calls Try.prog 71 #[.string x] w1 _
  go_enter Try.func71, Try.ntmps71
  go_wp2
  go_ret
  exact ⟨rfl, Below.refl _ _⟩
/-- What is read: at most 40 points, hyphens and blanks. -/
def SignsOk (s : ByteArray) : Prop := s.size ≤ 40 ∧ ∀ b ∈ s.data.toList, b = 46 ∨ b = 45 ∨ b = 32
set_option maxRecDepth 100000 in
theorem sign_meets (w : World) (B : Nat) (hc : Cells w B #[.func (.func 72) #[.agg #[.string ⟨#[46, 45, 32]⟩, .int .i64 0]] #[]] 116) (x : ByteArray) (hx : SignsOk x) : Meets Try.prog w 73 #[] #[.pointer (some ⟨B, 0, none⟩)] (.string x) true := by
  intro w1 hb
  have hall : x.data.toList.all (fun b => [46, 45, 32].contains b) = true := List.all_eq_true.2 fun b hbm => by
    rcases hx.2 b hbm with rfl | rfl | rfl <;> rfl
  have hsz : x.data.toList.length ≤ 40 := by have : x.data.toList.length = x.size := by simp
                                             have := hx.1
                                             omega
  obtain ⟨L, hL⟩ : ∃ L, x.data.toList = L := ⟨_, rfl⟩
  rw [hL] at hall hsz
  have C1 := hc.below hb
  obtain ⟨W2, cc, hc2, hby, hb2, hz2⟩ := bytes_conv x L hL w1
  have C2 := C1.below hb2
  have q0 := C2.cell 0
  simp at q0
  have lq := C2.lt
  have hal := all_byt (some ⟨w1.heap.size, 0, none⟩) L cc 72 #[.agg #[.string ⟨#[46, 45, 32]⟩, .int .i64 0]] #[] (fun b => [46, 45, 32].contains b) W2 (by omega) hby (enters Try.func72 (by kernel_rfl) rfl) (fun b _ w3 _ => f2_has_any ⟨#[46, 45, 32]⟩ 0 b w3)
  rw [hall] at hal
  clear hL hall hc C1 hby
  show Calls Try.prog 73 #[.string x, .pointer (some ⟨B, 0, none⟩)] w1 _
  go_enter Try.func73, Try.ntmps73
  go_wp2_with (first | (go_at_call 74; refine hal.mono ?_; rintro e w3 ⟨rfl, b3⟩) | fail)
  go_ret
  exact ⟨rfl, hb2.trans (b3.mono hb2.size)⟩
set_option maxRecDepth 100000 in
set_option maxHeartbeats 2000000 in
theorem checkSigns_ok (a : Option Addr) (x : ByteArray) (w : World) (hx : StrsAt w a [x]) (hs : SignsOk x) : Calls Try.prog 49 #[.slice a 1 1] w fun e w' => e = .returned (.int .i64 0) ∧ Below w.heap.size w w' := by
  obtain ⟨b0, o0, rfl, _⟩ := hx 0 (by simp)
  have h1 := fun W (b : Below w.heap.size w W) => all_str (some ⟨b0, o0, none⟩) [x] 1 71 #[] #[] (fun y => decide ((y.size : Int) ≤ 40)) W (by simp) (hx.below b) (enters Try.func71 (by kernel_rfl) rfl) (fun y _ => short_meets W y)
  rw [show [x].all (fun y => decide ((y.size : Int) ≤ 40)) = true by simp; have := hs.1; omega] at h1
  have h2 := fun W (b : Below w.heap.size w W) B (hc : Cells W B #[.func (.func 72) #[.agg #[.string ⟨#[46, 45, 32]⟩, .int .i64 0]] #[]] 116) => all_str (some ⟨b0, o0, none⟩) [x] 1 73 #[] #[.pointer (some ⟨B, 0, none⟩)] (fun _ => true) W (by simp) (hx.below b) (enters Try.func73 (by kernel_rfl) rfl) (fun y hy => sign_meets W B hc y (by simp at hy; subst hy; exact hs))
  rw [show [x].all (fun _ => true) = true by simp] at h2
  simp only [List.length_singleton] at h1 h2
  go_enter Try.func49, Try.ntmps49
  go_wp2_with fail
  go_at_call 69
  refine (h1 _ (Below.refl _ _)).mono ?_
  rintro e w1 ⟨rfl, b1⟩
  clear h1
  go_wp2_with fail
  go_at_call 69
  have b2 : Below w.heap.size w (w1.alloc (.cells #[.func (.func 72) #[.agg #[.string ⟨#[46, 45, 32]⟩, .int .i64 0]] #[]] 116)) := b1.alloc b1.size _
  refine (h2 _ b2 w1.heap.size (Cells.new _ _ _)).mono ?_
  rintro e w3 ⟨rfl, b3⟩
  go_wp2
  go_ret
  exact ⟨rfl, b2.trans (b3.mono b2.size)⟩
theorem addF_len (L : List UInt8) (errs : Int) (ss : List (List UInt8)) : ∀ (m : Nat) (text : List Int) (r : Nat → Int), (addF L errs ss m text r).length ≤ ss.length ^ m
  | 0, text, r => by
    rw [addF]
    split
    · simp
    · split <;> simp
  | m + 1, text, r => by
    rw [addF]
    split
    · simp
    · rw [List.length_flatMap]
      have h : ∀ (l : List Nat) (f : Nat → Nat) (K : Nat), (∀ x, f x ≤ K) → (l.map f).sum ≤ l.length * K := fun l f K hK => by
        induction l with
        | nil => simp
        | cons x l ih => rw [List.map_cons, List.sum_cons, List.length_cons, Nat.succ_mul]; have := hK x; omega
      have := h (List.range ss.length) (fun (i : Nat) => (addF L errs ss m (text ++ [(i : Int)]) (aftF L (sgsOf text (ss.getD i [])) r (fun _ => 0) 32)).length) (ss.length ^ m) (fun i => addF_len L errs ss m _ _)
      rw [List.length_range] at this
      rw [Nat.pow_succ, Nat.mul_comm]
      exact this
/-- All texts of so many letters. -/
def textsF (L : List UInt8) (errs : Int) (ss : List (List UInt8)) (m : Nat) : List (List Int) := addF L errs ss m [] (begF L)
theorem textsF_len (L : List UInt8) (errs : Int) (ss : List (List UInt8)) (m : Nat) (hs : ss.length ≤ 10) (hm : m ≤ 10) : (textsF L errs ss m).length ≤ 10000000000 :=
  Nat.le_trans (addF_len L errs ss m _ _) (Nat.le_trans (Nat.pow_le_pow_left hs m) (Nat.le_trans (Nat.pow_le_pow_right (by omega) hm) (by decide)))
section
variable (a : Option Addr) (ss : List ByteArray) (c : Nat) (s : ByteArray) (errs : Int) (m : Nat) (L : List UInt8) (SS : List (List UInt8)) (hL : s.data.toList = L) (hSS : ss.map (fun x => x.data.toList) = SS) (hs : s.size ≤ 40) (hm : m ≤ 10) (hsz : ∀ x ∈ ss, x.size ≤ 1000) (hlen : ss.length ≤ 10) (hpos : 0 < ss.length) (w : World) (hx : StrsAt w a ss)
include hL hSS hs hm hsz hlen hpos hx
set_option maxRecDepth 100000 in
set_option maxHeartbeats 2000000 in
theorem texts_any : Calls Try.prog 51 #[.agg #[.slice a ss.length c, .string s, .int .i64 errs], .int .i64 (m : Int)] w fun e w' =>
    ∃ ao co vs, e = .returned (.slice ao vs.length co) ∧ OwnL 26 1 w.heap.size w' ao co vs.length vs ∧ RowsV w.heap.size w' vs (textsF L errs SS m) ∧ Below w.heap.size w w' := by
  obtain ⟨b0, o0, rfl, hb0, _⟩ := hx 0 hpos
  have hbeg := fun (w : World) => begun_any (some ⟨b0, o0, none⟩) ss.length c s errs w
  have hadd := add_any w.heap.size (some ⟨b0, o0, none⟩) ss c s errs (m : Int) L SS hL hSS hs (by omega) hsz (by omega) (fun ad e => by cases e; exact hb0) (fun e => by cases e) m [] none 0 (begF L) [] []
  have htl := textsF_len L errs SS m (by rw [← hSS]; simpa using hlen) hm
  rw [hL] at hbeg
  have Htl := Lib.hid htl
  clear htl hL hSS hsz
  go_enter Try.func51, Try.ntmps51
  go_upto_region 3 with fail
  obtain ⟨X, hX⟩ : ∃ z : World, z = (((w.alloc (.cells #[.slice (some ⟨b0, o0, none⟩) ss.length c, .string s, .int .i64 errs] 99)).alloc (.cells #[.int .i64 (m : Int)] 3)).alloc (.cells #[.slice none 0 0] 61)).alloc (.cells #[.func (.func 75) #[] #[.pointer (some ⟨w.heap.size, 0, none⟩), .pointer (some ⟨w.heap.size + 1, 0, none⟩), .pointer (some ⟨w.heap.size + 1 + 1, 0, none⟩), .pointer (some ⟨w.heap.size + 1 + 1 + 1, 0, none⟩)]] 119) := ⟨_, rfl⟩
  have b1 : Below w.heap.size w X := by rw [hX]; (repeat (first | exact Below.refl _ _ | refine Below.alloc ?_ (by first | omega | (simp; done) | (simp; omega)) _ | refine Below.drew ?_ | refine Below.setCell ?_ (by first | omega | (simp; done) | (simp; omega)) _ | refine Below.trans ?_ (Below.mono (by assumption) (by first | omega | (simp; done) | (simp; omega)))))
  have z1 : w.heap.size + 4 ≤ X.heap.size := by rw [hX]; simp
  have E1 : EnvA X w.heap.size (some ⟨b0, o0, none⟩) ss.length c s errs (m : Int) := by
    rw [hX]
    exact ⟨(((Cells.new _ _ _).alloc _).alloc _).alloc _, ((Cells.new' _ _ _ _ (by simp)).alloc _).alloc _, Cells.new' _ _ _ _ (by simp)⟩
  have O1 : Cells X (w.heap.size + 2) #[.slice none 0 0] 61 := by rw [hX]; exact (Cells.new' _ _ _ _ (by simp)).alloc _
  rw [← hX]
  clear hX
  have p0 := E1.t.cell 0
  have p1 := E1.t.cell 1
  have p2 := E1.t.cell 2
  have p3 : X.cell? ⟨w.heap.size + 1 + 1 + 1, 0, none⟩ = some (.func (.func 75) #[] #[.pointer (some ⟨w.heap.size, 0, none⟩), .pointer (some ⟨w.heap.size + 1, 0, none⟩), .pointer (some ⟨w.heap.size + 1 + 1, 0, none⟩), .pointer (some ⟨w.heap.size + 1 + 1 + 1, 0, none⟩)]) := E1.f.cell 0
  simp at p0 p1 p2
  have lt0 := E1.t.lt
  have lt3 : w.heap.size + 1 + 1 + 1 < X.heap.size := E1.f.lt
  (refine wp_region_seq 3 [] [3] 12 [true, true, false] [fun v _ => v = .agg (rowA (begF L))] (by kernel_rfl) (by kernel_rfl) rfl (mono_cons (fun v w w' h hb => h) mono_nil) ?_; simp only [pickOps, List.filterMap_cons, List.filterMap_nil, List.getElem?_toArray, List.getElem?_cons_succ, List.getElem?_cons_zero]; (repeat (refine wpFl_step _ rfl (fun w => (by go_simp; rfl)) ?_)); refine wpFl_nil ?_; simp only [maskOps, dummy, Act.put, List.setIfInBounds_toArray, List.set_cons_zero, List.set_cons_succ, List.take_succ_cons, List.take_zero, List.drop_succ_cons, List.drop_zero]; (repeat (refine wpQB_step (fun K hK => ?_); go_simp; first | (refine hK _ ?_; clear hK K) | (apply Exists.intro; refine ⟨fun ex => ?_, hK _ ?_⟩; (fail); clear hK K))); refine wpQB_nil ?_; simp only [relObl2, under, relEnd, and_true, List.nil_append, List.cons_append])
  refine ⟨fun e => ?f1, fun e v1 h1 => ?fin⟩
  case f1 =>
    go_simp
    go_at_call 78
    exact (hbeg _).mono (by rintro _ _ ⟨rfl, hb⟩; exact ⟨hb, rfl⟩)
  case fin =>
    subst h1
    simp only [Act.put, List.setIfInBounds_toArray, List.set_cons_zero, List.set_cons_succ]
    have heb := e.below
    have b5 := b1.trans (heb.mono b1.size)
    have k5 := KeepT.of_below (base := w.heap.size + 4) (Bo := w.heap.size + 2) (tb := none) heb
    have E5 := E1.keep k5 (fun g e => by cases e)
    have O5 := O1.below heb
    have hz := heb.size
    have hc := hadd e.to (by simp) (begF_ok L) (by omega) E5 (hx.below b5) (OwnL.nil _ _ _ _) ⟨⟨none, 0, O5, OwnL.nil _ _ _ _⟩, rfl, fun k hk => by cases hk⟩ (fun v hv => by cases hv) (by have h1 := Htl.out; rw [textsF] at h1; simp only [List.length_nil]; omega)
    obtain ⟨w5, hw5⟩ : ∃ x : World, x = e.to := ⟨_, rfl⟩
    rw [← hw5] at hc b5 hz ⊢
    clear hw5 heb E5 O5 k5 p0 p1 p2 p3
    clear hadd hbeg
    go_upto_region 4 with (go_at_call 75; refine hc.mono ?_; rintro _ w6 ⟨rfl, hb6, _, _, us, hO6, _⟩)
    rw [List.nil_append, List.nil_append] at hO6
    obtain ⟨ao, co, cO, oO⟩ := hO6.cell
    have q0 : w6.cell? ⟨w.heap.size + 1 + 1, 0, none⟩ = some (.slice ao us.length co) := cO.cell 0
    have f0 : w6.frozen? ⟨w.heap.size + 1 + 1, 0, none⟩ = false := cO.frozen 0
    have l0 : w.heap.size + 1 + 1 < w6.heap.size := cO.lt
    have rows := hO6.rows
    have b6 := b5.trans hb6
    obtain ⟨X7, hX7⟩ : ∃ z : World, z = w6.setCell ⟨w.heap.size + 1 + 1, 0, none⟩ (.slice ao us.length co) := ⟨_, rfl⟩
    have cO7 : Cells X7 (w.heap.size + 1 + 1) #[.slice ao us.length co] 61 := by rw [hX7]; exact cO.set 0 _
    have bl7 : ∀ b, b ≠ w.heap.size + 1 + 1 → X7.heap[b]? = w6.heap[b]? := fun b h => by rw [hX7]; exact Below.heap_setCell _ _ _ _ h
    have z7 : w6.heap.size ≤ X7.heap.size := by rw [hX7]; simp [World.setCell]
    have b7 : Below w.heap.size w X7 := by rw [hX7]; exact b6.setCell (p := ⟨w.heap.size + 1 + 1, 0, none⟩) (by show w.heap.size ≤ w.heap.size + 1 + 1; omega) _
    have ow7 : ∀ {E : TypeId} {a1 : Option Addr} {c1 n1 : Nat} {xs1 : List Value}, OwnL E 1 (w.heap.size + 4) w6 a1 c1 n1 xs1 → OwnL E 1 (w.heap.size + 4) X7 a1 c1 n1 xs1 := fun h => OwnL.moved h z7 bl7 fun e => by have := (OwnL.block_ge h e.symm).1; omega
    have o7 := (ow7 oO).base_le (base' := w.heap.size) (by omega)
    have r7 : RowsV w.heap.size X7 us (textsF L errs SS m) := rows.mono' fun v row hr => by
      obtain ⟨a1, c1, h1, h2⟩ := hr
      exact ⟨a1, c1, h1, (ow7 h2).base_le (by omega)⟩
    clear hO6 cO oO rows ow7 bl7 hc b5 b6 hb6 hx
    go_wp2_with fail
    rw [← hX7]
    clear hX7
    refine bodyPost_ret (results_cell1 rfl rfl (f2_load_list _ _ _ (cO7.cell 0))) rfl ?_
    exact ⟨ao, co, us, rfl, o7, r7, b7⟩
end
end Go.Proofs.Ytnofcpihkglmmaa
