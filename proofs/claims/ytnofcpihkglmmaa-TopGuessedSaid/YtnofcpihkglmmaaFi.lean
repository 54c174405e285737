/- flash: whether a row is hopeless; checkSigns -/
import Derived.Test.YtnofcpihkglmmaaFh
import Derived.DeepKeys
import Derived.Laws.StructEq
namespace Go.Proofs.Ytnofcpihkglmmaa
set_option linter.unusedVariables false
set_option linter.unusedSimpArgs false
set_option linter.unnecessarySimpa false
open Go.RowKit Go.Flow
def rowEq (f g : Nat → Int) : Bool := (List.range 41).all fun k => f k == g k
theorem mapM_some {α β : Type} {g : α → Option β} {h : α → β} : ∀ (l : List α), (∀ x ∈ l, g x = some (h x)) → l.mapM g = some (l.map h)
  | [], _ => rfl
  | x :: l, hx => by
    rw [List.mapM_cons, hx x (List.mem_cons_self ..), mapM_some l fun y hy => hx y (List.mem_cons_of_mem _ hy)]
    rfl
theorem row_lits (f : Nat → Int) (hf : RowOk f) : Try.prog.keyLits 2 121 (Value.agg (rowA f)).cells.toList = some ((List.range 41).map fun k => Lit.int .i64 (f k)) := by
  have hl : (rowA f).toList.length = 41 := by simp [rowA]
  show Try.prog.keyLits 2 121 (rowA f).toList = _
  unfold Program.keyLits
  rw [Try.underlying121]
  simp only
  rw [if_pos (by rw [hl]; kernel_rfl), mapM_some (h := fun k => [Lit.int .i64 (f k)]) _ fun k hk => ?_]
  · simp only [Option.map_some]
    congr 1
    try (rw [List.flatten_eq_flatMap, List.flatMap_map]; simp)
  · have hk' : k < 41 := List.mem_range.1 hk
    rw [show Try.prog.cellsOf 3 = 1 by kernel_rfl, Nat.mul_one]
    have e : ((rowA f).toList.drop k).take 1 = [Value.int .i64 (f k)] := by
      have h1 := List.drop_eq_getElem_cons (l := (rowA f).toList) (i := k) (by rw [hl]; exact hk')
      rw [h1]
      simp [rowA]
    rw [e]
    unfold Program.keyLits
    rw [Try.underlying3]
    have := hf k
    have hw : (Lit.int .i64 (f k)).wf = true := by
      simp [Lit.wf]
      rw [show IntKind.i64.min = -9223372036854775808 by rfl]
      omega
    simp [hw]
theorem row_equal (f g : Nat → Int) (hf : RowOk f) (hg : RowOk g) (w : World) : (Op.equalIn 10000 121 (.agg (rowA f)) (.agg (rowA g))).run Try.prog w = .ok (rowEq f g) w := by
  have hform : ∀ f, (Value.agg (rowA f)).formed Try.prog 121 = true := fun f => by
    unfold Value.formed
    rw [Try.underlying121]
    simp only [rowA_size]
    kernel_rfl
  obtain ⟨r, hr, hiff⟩ := run_equalIn_deep (P := Try.prog) 9998 2 121 (by kernel_rfl) w 2 2 _ _ _ _ (hform f) (hform g) (row_lits f hf) (row_lits g hg)
  simp only [Nat.reduceAdd] at hr
  rw [hr]
  refine congrArg (fun b => Result.ok b w) (?_ : r = rowEq f g)
  rw [Bool.eq_iff_iff, hiff, rowEq, List.all_eq_true]
  constructor
  · intro h k hk
    have := congrArg (fun l => l[k]?) h
    have hk' := List.mem_range.1 hk
    simp [hk'] at this
    simpa using this
  · intro h
    exact List.map_congr_left fun k hk => by rw [show f k = g k by simpa using h k hk]
def hopeF (L : List UInt8) (errs : Int) (r : Nat → Int) : Bool := if rowEq r (begF L) = true then false else !(((List.range (L.length + 1)).map r).any fun x => decide (x ≤ errs))
theorem le_meets (a : Option Addr) (n c : Nat) (s : ByteArray) (errs : Int) (w : World) (B : Nat) (hB : Cells w B #[.slice a n c, .string s, .int .i64 errs] 99) (x : Int) :
    Meets Try.prog w 89 #[] #[.pointer (some ⟨B, 0, none⟩)] (.int .i64 x) (decide (x ≤ errs)) := by
  intro w1 hb
  have C1 := hB.below hb
  have q2 := C1.cell 2
  simp at q2
  have lq := C1.lt
  show Calls Try.prog 89 #[.int .i64 x, .pointer (some ⟨B, 0, none⟩)] w1 _
  go_enter Try.func89, Try.ntmps89
  go_wp2
  go_ret
  exact ⟨rfl, Below.refl _ _⟩
section
variable (a : Option Addr) (n c : Nat) (s : ByteArray) (errs : Int) (w : World) (r : Nat → Int) (hr : RowOk r) (hs : s.size ≤ 40)
include hr hs
set_option maxRecDepth 100000 in
set_option maxHeartbeats 2000000 in
theorem hopeless_any : Calls Try.prog 76 #[.agg #[.slice a n c, .string s, .int .i64 errs], .agg (rowA r)] w fun e w' => e = .returned (.bool (hopeF s.data.toList errs r)) ∧ Below w.heap.size w w' := by
  have hbeg := fun (w : World) => begun_any a n c s errs w
  have hle := le_meets a n c s errs
  have heq := fun (w : World) => row_equal r (begF s.data.toList) hr (begF_ok _) w
  unfold hopeF
  obtain ⟨L, hL⟩ : ∃ L, s.data.toList = L := ⟨_, rfl⟩
  have hLs : L.length = s.size := by rw [← hL]; simp
  rw [hL] at hbeg heq ⊢
  have HL := Lib.hid hLs
  clear hL hLs
  obtain ⟨q, hq⟩ : ∃ q, rowEq r (begF L) = q := ⟨_, rfl⟩
  rw [hq] at heq ⊢
  clear hq
  obtain ⟨Z, hZ⟩ : ∃ Z, ((List.range (L.length + 1)).map r).any (fun x => decide (x ≤ errs)) = Z := ⟨_, rfl⟩
  rw [hZ]
  have HZ := Lib.hid hZ
  have Heq := Lib.hid heq
  clear hr hZ heq
  go_enter Try.func76, Try.ntmps76
  go_wp2_with fail
  have b0 : Below w.heap.size w ((w.alloc (.cells #[.slice a n c, .string s, .int .i64 errs] 99)).alloc (.cells (rowA r) 121)) := by (repeat (first | exact Below.refl _ _ | refine Below.alloc ?_ (by first | omega | (simp; done) | (simp; omega)) _ | refine Below.drew ?_ | refine Below.setCell ?_ (by first | omega | (simp; done) | (simp; omega)) _ | refine Below.trans ?_ (Below.mono (by assumption) (by first | omega | (simp; done) | (simp; omega)))))
  have K0 : Cells ((w.alloc (.cells #[.slice a n c, .string s, .int .i64 errs] 99)).alloc (.cells (rowA r) 121)) w.heap.size #[.slice a n c, .string s, .int .i64 errs] 99 := (Cells.new _ _ _).alloc _
  have R0 : Cells ((w.alloc (.cells #[.slice a n c, .string s, .int .i64 errs] 99)).alloc (.cells (rowA r) 121)) (w.heap.size + 1) (rowA r) 121 := Cells.new' _ _ _ _ (by simp)
  obtain ⟨W0, hW0⟩ : ∃ z : World, z = (w.alloc (.cells #[.slice a n c, .string s, .int .i64 errs] 99)).alloc (.cells (rowA r) 121) := ⟨_, rfl⟩
  rw [← hW0] at b0 K0 R0 ⊢
  clear hW0
  have p0 := K0.cell 0
  have p1 := K0.cell 1
  have p2 := K0.cell 2
  simp at p0 p1 p2
  have lt0 := K0.lt
  (refine wp_region_seq 4 [] [] 17 [false, true, false, false] [fun v _ => v = .agg (rowA r), fun v _ => v = .agg (rowA (begF L)), fun v _ => v = .bool q] (by kernel_rfl) (by kernel_rfl) rfl (mono_cons (fun v w w' h hb => h) (mono_cons (fun v w w' h hb => h) (mono_cons (fun v w w' h hb => h) mono_nil))) ?_; simp only [pickOps, List.filterMap_cons, List.filterMap_nil, List.getElem?_toArray, List.getElem?_cons_succ, List.getElem?_cons_zero]; (repeat (refine wpFl_step _ rfl (fun w => (by go_simp; rfl)) ?_)); refine wpFl_nil ?_; simp only [maskOps, dummy, Act.put, List.setIfInBounds_toArray, List.set_cons_zero, List.set_cons_succ, List.take_succ_cons, List.take_zero, List.drop_succ_cons, List.drop_zero]; (repeat (refine wpQB_step (fun K hK => ?_); go_simp; first | (refine hK _ ?_; clear hK K) | (apply Exists.intro; refine ⟨fun ex => ?_, hK _ ?_⟩; (fail); clear hK K))); refine wpQB_nil ?_; simp only [relObl2, under, relEnd, and_true, List.nil_append, List.cons_append])
  refine ⟨⟨fun e => ?f1, fun e v1 h1 => ?f2, fun e v1 h1 v2 h2 => ?f3⟩, fun e v1 h1 v2 h2 v3 h3 => ?fin⟩
  case f1 => exact gives_load_row 121 (.tmp 3) rfl (w.heap.size + 1) rfl 121 _ (0, 0) _ (R0.below e.below) Try.underlying121 rfl (by rw [rowA_size]; kernel_rfl) ⟨Below.refl _ _, rfl⟩
  case f2 =>
    simp only [Act.put, List.setIfInBounds_toArray, List.set_cons_zero, List.set_cons_succ]
    go_simp
    go_at_call 78
    exact (hbeg _).mono (by rintro _ _ ⟨rfl, hb⟩; exact ⟨hb, rfl⟩)
  case f3 =>
    have e1 := h1 (by kernel_rfl)
    have e2 := h2 (by kernel_rfl)
    subst e1
    subst e2
    simp only [Act.put, List.setIfInBounds_toArray, List.set_cons_zero, List.set_cons_succ]
    have hq := Heq.out e.to
    go_simp
    exact Below.refl _ _
  case fin =>
    subst h1
    subst h2
    subst h3
    simp only [Act.put, List.setIfInBounds_toArray, List.set_cons_zero, List.set_cons_succ]
    have heb := e.below
    have K5 := K0.below heb
    have R5 := R0.below heb
    have hb5 := b0.trans (heb.mono b0.size)
    obtain ⟨w5, hw5⟩ : ∃ x : World, x = e.to := ⟨_, rfl⟩
    rw [← hw5] at K5 R5 hb5 ⊢
    clear hw5 heb K0 R0 b0 p0 p1 p2 lt0
    cases q
    · have q1 := K5.cell 1
      simp at q1
      have lt5 := K5.lt
      have lr5 := R5.lt
      have hx : IntsAt w5 (some ⟨w.heap.size + 1, 0, none⟩) ((List.range (L.length + 1)).map r) := fun k hk => by
        have hk' : k < L.length + 1 := by simpa using hk
        exact ⟨w.heap.size + 1, 0, rfl, lr5, by rw [Nat.zero_add, R5.cell, rowA_get _ (by have := HL.out; omega)]; exact congrArg (fun x => some (Value.int .i64 x)) (by rw [List.getD_eq_getElem?_getD, List.getElem?_map, List.getElem?_range hk']; rfl)⟩
      have hcf := containsFunc_fint (some ⟨w.heap.size + 1, 0, none⟩) ((List.range (L.length + 1)).map r) 41 89 #[] #[.pointer (some ⟨w.heap.size, 0, none⟩)] (fun x => decide (x ≤ errs)) w5 (by simp; have := HL.out; omega) hx (enters Try.func89 (by kernel_rfl) rfl) (fun x _ => hle w5 _ K5 x)
      rw [HZ.out, show ((List.range (L.length + 1)).map r).length = s.size + 1 by simp [HL.out]] at hcf
      have i1 : IntKind.i64.wrap ((s.size : Int) + 1) = (s.size : Int) + 1 := IntWalk.i64_in _ (by omega)
      have i2 : (0 : Int) ≤ (s.size : Int) + 1 := by omega
      have i3 : (s.size : Int) + 1 ≤ 41 := by omega
      have i4 : ((s.size : Int) + 1).toNat = s.size + 1 := by omega
      clear hx hle hbeg
      go_wp2_with (go_at_call 65; refine hcf.mono ?_; rintro e w1 ⟨rfl, hb1⟩)
      go_ret
      exact ⟨by first | rfl | simp, hb5.trans (hb1.mono hb5.size)⟩
    · go_wp2
      go_ret
      exact ⟨rfl, hb5⟩
end
end Go.Proofs.Ytnofcpihkglmmaa
