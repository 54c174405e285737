/- pay: the reference's best groups -/
import Derived.Test.YtomjlmhnjgohdaaBo
import Derived.Test.YtomjlmhnjgohdaaBc
import Derived.Deep.RegionHeld3
import Derived.Deep.AppendLies
namespace Go.Proofs.Ytomjlmhnjgohdaa
set_option linter.unusedVariables false
set_option linter.unusedSimpArgs false
set_option linter.unnecessarySimpa false
open Go.RowKit Go.Flow Go.Shelf

section
variable {P : Program} {t E : TypeId} {z : Value} {size bytes : Nat}
theorem run_app0 (el : Elem P t E z size bytes) (ty : TypeId) (w : World) (base g : Nat) (hg : Cells w g #[] E) (hbg : base ≤ g) (ao : Option Addr) (m c : Nat) (news : List Value) (hnone : ao = none → m = 0 ∧ c = 0)
    (hl : news.length = m * size) (hsrc : SrcAt w ao news) (h63 : m ≤ maxLen) (hbytes : m * bytes ≤ 140737488355328) :
    ∃ v w', (Builtin.append_ #[t, t] ty #[.slice (some ⟨g, 0, none⟩) 0 0, .slice ao m c]).run P w = .ok v w' ∧ OwnV E size base m news v w' ∧ Below w.heap.size w w' := by
  obtain ⟨i, hi, hz0, hz1, hz2⟩ := el.info
  have hsmall : m ≤ 9223372036854775807 := by simp only [maxLen] at h63; omega
  by_cases hm : m = 0
  · subst hm
    have hn : news = [] := List.eq_nil_of_length_eq_zero (by simpa using hl)
    subst hn
    refine ⟨.slice (some ⟨g, 0, none⟩) 0 0, w, ?_, ⟨some ⟨g, 0, none⟩, 0, rfl, ⟨by simp, .inr ⟨g, 0, _, rfl, hbg, hg, Nat.le_refl _, Nat.zero_le _, by simp, by simp⟩⟩⟩, Below.refl _ _⟩
    have hs : ∀ b : Addr, Sem.run P (storeCells b []) w = .ok () w := fun b => rfl
    cases ao <;> simp [hs, Builtin.append_, run_underlying el.slice, sizeOf, typeInfo, hi, Builtin.lenOf, Builtin.firstCells, loadCells, loadCellsFrom]
  · obtain ⟨a, rfl⟩ : ∃ a, ao = some a := by
      cases ao with
      | none => exact absurd (hnone rfl).1 hm
      | some a => exact ⟨a, rfl⟩
    have hnews : ∀ j u, news[j]? = some u → w.cell? (a.add j) = some u := fun j u hu => by
      obtain ⟨b, off, ha, hc⟩ := hsrc j u hu
      obtain rfl := Option.some.inj ha
      rw [addr_add]; exact hc
    have hfit : Builtin.nextslicecap (0 + m) 0 * i.bytes ≤ 281474976710656 := growslice_fits (by omega) (by rw [hz2]; simpa using hbytes)
    have hr := run_append_grow (P := P) (w := w) t ty E i z el.slice hi hz0 ⟨g, 0, none⟩ 0 0 [] (by simp) (by simp) a m c news (by rw [hz1]; exact hl) hnews (by omega) (by omega) hfit
    refine ⟨_, _, hr, ⟨some ⟨w.heap.size, 0, none⟩, grownCap w (0 + m) 0 E, by rw [Nat.zero_add], hl, .inr ⟨w.heap.size, _, _, rfl, by have := hg.lt; omega, heap_alloc_new w.drew _, by have := grownCap_ge w (0 + m) 0 E; omega, grownCap_le_maxLen w (0 + m) 0 E (by omega), ?_, ?_⟩⟩, ((Below.refl _ w).drew).alloc (Nat.le_refl _) _⟩
    · simp only [Array.size_append, List.size_toArray, size_zeroCells, el.cells, hl, List.length_nil, Nat.zero_add, ← Nat.add_mul]
      congr 1
      have := grownCap_ge w m 0 E
      omega
    · simp only [Array.toList_append, List.nil_append]
      rw [← hl]
      exact List.take_left
theorem gives_app0 {o : Oper} {a : Act} (el : Elem P t E z size bytes) (w : World) (base g : Nat) (s x : Operand) (ho : o.op = .call { callee := .builtin .append, args := #[s, x], argTypes := #[t, t] })
    (hs : a.eval s = .slice (some ⟨g, 0, none⟩) 0 0) (hg : Cells w g #[] E) (hbg : base ≤ g) (ao : Option Addr) (m c : Nat) (news : List Value) (hx : a.eval x = .slice ao m c) (hnone : ao = none → m = 0 ∧ c = 0)
    (hl : news.length = m * size) (hsrc : SrcAt w ao news) (h63 : m ≤ maxLen) (hbytes : m * bytes ≤ 140737488355328) :
    o.gives P a w fun v w' => Below w.heap.size w w' ∧ OwnV E size base m news v w' := by
  obtain ⟨v, w', h1, h2, h3⟩ := run_app0 el o.type w base g hg hbg ao m c news hnone hl hsrc h63 hbytes
  unfold Oper.gives
  simp only [execOp, ho, resolve, invoke, builtin, Sem.run_bind, Sem.run_pure, Result.andThen_ok, List.map_toArray, List.map_cons, List.map_nil, hs, hx, h1, Oper.givesUpon]
  exact ⟨h3, h2⟩
/-- 'append([]T{}, x..)' at a step of a region that draws. -/
theorem step_app0 {ops : Array Oper} {o : Oper} {a : Act} {w : World} {K : Act → World → Prop} {Q : Exit → Act → World → Prop} {F : Prop} (hgd : o.guard = none) (el : Elem P t E z size bytes) (base g : Nat) (s x : Operand) (ho : o.op = .call { callee := .builtin .append, args := #[s, x], argTypes := #[t, t] })
    (hs : a.eval s = .slice (some ⟨g, 0, none⟩) 0 0) (hg : Cells w g #[] E) (hbg : base ≤ g) (ao : Option Addr) (m c : Nat) (news : List Value) (hx : a.eval x = .slice ao m c) (hnone : ao = none → m = 0 ∧ c = 0)
    (hl : news.length = m * size) (hsrc : SrcAt w ao news) (h63 : m ≤ maxLen) (hbytes : m * bytes ≤ 140737488355328)
    (h : ∀ a' c' w', OwnL E size base w' a' c' m news → Below w.heap.size w w' → K (a.put o.dst (.slice a' m c')) w') :
    if Region.wanted o (yielded ops a.tmps) = true then Oper.wp P o a w K Q else F := by
  rw [if_pos (by simp [Region.wanted, hgd])]
  obtain ⟨v, w', h1, ⟨a', c', rfl, h2⟩, h3⟩ := run_app0 el o.type w base g hg hbg ao m c news hnone hl hsrc h63 hbytes
  unfold Oper.wp execOp
  simp only [ho, resolve, invoke, builtin, Sem.run_bind, Sem.run_pure, Result.andThen_ok, List.map_toArray, List.map_cons, List.map_nil, hs, hx, h1]
  exact h a' c' w' h2 h3
end

section
variable (a : Option Addr) (l : List Int) (c : Nat) (hl : l.length ≤ 7) (hb : BdI l 100000)
include hl hb
set_option maxRecDepth 100000 in
set_option maxHeartbeats 4000000 in
theorem best_any : ∀ (k at_ : Nat), at_ + k = l.length → ∀ (sums : List Int) (sa : Option Addr) (cs : Nat) (w : World), IntsAt w a l → IntsAt w sa sums → (sa = none → sums = [] ∧ cs = 0) → sums.length ≤ at_ → BdI sums (100000 * (at_ : Int)) →
    Calls Try.prog 80 #[.slice a l.length c, .int .i64 (at_ : Int), .slice sa sums.length cs] w fun e w' => e = .returned (.int .i64 (bestF l k at_ sums)) ∧ Below w.heap.size w w' := by
  intro k
  induction k with
  | zero =>
    intro at_ hk sums sa cs w hx hs hn hsl hsb
    obtain rfl : at_ = l.length := by omega
    have hB : bestF l 0 l.length sums = if sums.all (· == 0) then (sums.length : Int) else -1 := rfl
    obtain ⟨B, hBe⟩ : ∃ B, bestF l 0 l.length sums = B := ⟨_, rfl⟩
    rw [hBe] at hB ⊢
    have HB := Lib.hid hB
    clear hB hBe
    go_enter Try.func80, Try.ntmps80
    go_wp2
    go_loopw [7] (fun u X => ∃ j : Nat, j ≤ sums.length ∧ u = .int .i64 j ∧ X = w ∧ (sums.take j).all (· == 0) = true) (fun u _ => sums.length - (intOf u).toNat)
    case atStart => exact ⟨0, Nat.zero_le _, rfl, rfl, rfl⟩
    case round =>
      obtain ⟨j, hj, rfl, rfl, hall⟩ := hrel
      have Hall := Lib.hid hall
      clear hall
      by_cases hlt : j < sums.length
      · have hjI : (j : Int) < (sums.length : Int) := by omega
        obtain ⟨b, off, rfl, hbl, hc⟩ := hs j hlt
        have htk : (sums.take (j + 1)).all (· == 0) = ((sums.take j).all (· == 0) && (sums.getD j 0 == 0)) := by
          rw [List.take_succ_eq_append_getElem hlt, List.all_append]
          simp [hlt]
        obtain ⟨x, hxe⟩ : ∃ x, sums.getD j 0 = x := ⟨_, rfl⟩
        rw [hxe] at hc htk
        have Hxe := Lib.hid hxe
        clear hxe
        by_cases h0 : x = 0
        · have hb0 : (x != 0) = false := by simpa using h0
          have Htk : Hid ((sums.take (j + 1)).all (· == 0) = true) := Lib.hid (by rw [htk, Hall.out, h0]; rfl)
          clear htk h0
          go_wp2
          go_roundw
          case rel => exact ⟨j + 1, by omega, by go_num, by trivial, Htk.out⟩
          case measure => simp [intOf]; omega
        · have hb0 : (x != 0) = true := by simpa using h0
          obtain rfl : B = -1 := by
            rw [HB.out, if_neg]
            rw [Bool.not_eq_true, List.all_eq_false]
            exact ⟨sums.getD j 0, getD_mem' hlt, by rw [Hxe.out]; simpa using h0⟩
          clear htk h0 HB
          go_wp2
          go_ret
          exact ⟨rfl, Below.refl _ _⟩
      · obtain rfl : j = sums.length := by omega
        obtain rfl : B = (sums.length : Int) := by
          have := Hall.out
          rw [List.take_length] at this
          rw [HB.out, if_pos this]
        clear HB
        go_wp2
        go_ret
        exact ⟨rfl, Below.refl _ _⟩
  | succ k ih =>
    intro at_ hk sums sa cs w hx hs hn hsl hsb
    have hat : at_ < l.length := by omega
    have haI : (at_ : Int) < (l.length : Int) := by omega
    have hane : ((at_ : Int) == (l.length : Int)) = false := by rw [beq_eq_false_iff_ne]; omega
    obtain ⟨A, hA⟩ : ∃ A, at_ + 1 = A := ⟨_, rfl⟩
    have wA : IntKind.i64.wrap ((at_ : Int) + 1) = (A : Int) := by rw [IntWalk.i64_in _ (by omega)]; omega
    have hAk : A + k = l.length := by omega
    have hB : bestF l (k + 1) at_ sums = if l.getD at_ 0 = 0 then bestF l k (at_ + 1) sums else (List.range sums.length).foldl (fun m j => max m (bestF l k (at_ + 1) (sums.set j (sums.getD j 0 + l.getD at_ 0)))) (bestF l k (at_ + 1) (sums ++ [l.getD at_ 0])) := rfl
    obtain ⟨B, hBe⟩ : ∃ B, bestF l (k + 1) at_ sums = B := ⟨_, rfl⟩
    rw [hBe] at hB ⊢
    rw [hA] at hB
    obtain ⟨bl, ol, rfl, hbl, hcl⟩ := hx at_ hat
    have hxb := hb.at_ at_ hat
    have Hih := Lib.hid ih
    clear ih hBe
    obtain ⟨x, hxe⟩ : ∃ x, l.getD at_ 0 = x := ⟨_, rfl⟩
    rw [hxe] at hB hcl hxb
    clear hxe
    have HB := Lib.hid hB
    clear hB
    by_cases h0 : x = 0
    · have hb0 : (x == 0) = true := by simpa using h0
      have hr := Hih.out A hAk sums sa cs w hx hs hn (by omega) (fun y hy => by have := hsb y hy; omega)
      obtain rfl : B = bestF l k A sums := by rw [HB.out, if_pos h0]
      obtain ⟨B, hBe⟩ : ∃ B, bestF l k A sums = B := ⟨_, rfl⟩
      rw [hBe] at hr ⊢
      clear HB h0 hBe
      go_enter Try.func80, Try.ntmps80
      go_wp2_with (go_at_call 80; (with_reducible refine hr.mono ?_); rintro e w1 ⟨rfl, b1⟩)
      go_ret
      exact ⟨rfl, b1⟩
    · have hb0 : (x == 0) = false := by simpa using h0
      have hB2 := HB.out
      rw [if_neg h0] at hB2
      have HB2 := Lib.hid hB2
      clear hB2 HB h0
      have sv : ∀ W, Below w.heap.size w W → SrcAt W sa (sums.map (Value.int .i64)) := fun W b => SrcAt.ints (hs.below b)
      have hnn : sa = none → sums.length = 0 ∧ cs = 0 := fun h => ⟨by rw [(hn h).1]; rfl, (hn h).2⟩
      have hrec : ∀ (W : World) (a2 : Option Addr) (c2 : Nat) (s2 : List Int), Below w.heap.size w W → s2.length ≤ A → BdI s2 (100000 * (A : Int)) → OwnL 3 1 w.heap.size W a2 c2 s2.length (s2.map (Value.int .i64)) → Calls Try.prog 80 #[.slice (some ⟨bl, ol, none⟩) l.length c, .int .i64 (A : Int), .slice a2 s2.length c2] W fun e w' => e = .returned (.int .i64 (bestF l k A s2)) ∧ Below W.heap.size W w' := fun W a2 c2 s2 b h1 h2 h3 =>
        Hih.out A hAk s2 a2 c2 W (hx.below b) h3.ints.1 (fun h => by subst h; have := h3.isnil; exact ⟨List.eq_nil_of_length_eq_zero this.1, this.2⟩) h1 h2
      have hsl7 : sums.length ≤ 7 := by omega
      have hsb1 : BdI (sums ++ [x]) (100000 * (A : Int)) := fun y hy => by
        rcases List.mem_append.1 hy with h | h
        · have := hsb y h; omega
        · simp at h; subst h; omega
      have hr1 := fun W a2 c2 b => hrec W a2 c2 (sums ++ [x]) b (by simp; omega) hsb1
      obtain ⟨B1, hB1⟩ : ∃ B, bestF l k A (sums ++ [x]) = B := ⟨_, rfl⟩
      simp only [hB1] at hr1
      rw [show (sums ++ [x]).length = sums.length + 1 by simp] at hr1
      have HB1 := Lib.hid hB1
      clear hB1
      go_enter Try.func80, Try.ntmps80
      go_wp2
      obtain ⟨ri, hi0, hz0, hz1, hz2⟩ := elInt.info
      go_region_held3 (fun w' => w'.cell? ⟨bl, ol + at_, none⟩ = some (.int .i64 x))
        (first
          | exact below_cell k11 hcl
          | exact below_cell k10 hcl
          | exact below_cell (k7.alloc k7.size _) hcl
          | exact below_cell k7 hcl
          | exact below_cell (show Below w.heap.size w _ by (repeat (first | exact Below.refl _ _ | refine Below.alloc ?_ (by first | omega | (simp; done) | (simp; omega)) _ | refine Below.drew ?_ | refine Below.setCell ?_ (by first | omega | (simp; done) | (simp; omega)) _ | refine Below.trans ?_ (Below.mono (by assumption) (by first | omega | (simp; done) | (simp; omega)))))) hcl
          | fail)
        (first
          | (refine step_app0 (by rfl) elInt w.heap.size _ _ _ (by rfl) (by rfl) (by first | exact Cells.new _ _ _ | exact (Cells.new _ _ _).alloc _ | exact Cells.new' _ _ _ _ (by simp) | fail) (by first | exact Nat.le_refl _ | (simp; done) | (simp; omega)) sa sums.length cs (sums.map (Value.int .i64)) (by rfl) hnn (by simp) (sv _ (by (repeat (first | exact Below.refl _ _ | refine Below.alloc ?_ (by first | omega | (simp; done) | (simp; omega)) _ | refine Below.drew ?_ | refine Below.setCell ?_ (by first | omega | (simp; done) | (simp; omega)) _ | refine Below.trans ?_ (Below.mono (by assumption) (by first | omega | (simp; done) | (simp; omega))))))) (by unfold maxLen; omega) (by omega) ?_; intro a7 c7 w7 own7 b7; have k7 : Below w.heap.size w w7 := Below.trans (by (repeat (first | exact Below.refl _ _ | refine Below.alloc ?_ (by first | omega | (simp; done) | (simp; omega)) _ | refine Below.drew ?_ | refine Below.setCell ?_ (by first | omega | (simp; done) | (simp; omega)) _ | refine Below.trans ?_ (Below.mono (by assumption) (by first | omega | (simp; done) | (simp; omega)))))) (Below.mono b7 (by first | exact Nat.le_refl _ | (simp; done) | (simp; omega))); (first | (have lit7 : Cells w7 (w.heap.size + 1) #[.int .i64 x] 3 := Cells.below (h := by exact Cells.new' _ _ _ _ (by simp)) b7) | (have lit7 : Cells w7 w.heap.size #[.int .i64 x] 3 := Cells.below (h := by exact (Cells.new _ _ _).alloc _) b7) | skip))
          | (refine step_append_lies _ (by rfl) _ _ _ (by rfl) w.heap.size 3 ri _ 1 8 Try.underlying25 hi0 hz0 hz1 hz2 rfl (by omega) (.slice a7 sums.length c7) sums.length _ (by rfl) (own7.alloc _) ⟨w7.heap.size, 0, none⟩ 1 1 [.int .i64 x] (by rfl) (by rfl) (World.news_of_block (cs := #[.int .i64 x]) (t := 3) (fr := (0, 0)) (heap_alloc_new w7 _)) (by simp [Value.oneCell']) (by omega) (by unfold maxLen; omega) (by omega) (by have := k7.size; simp; omega) (w7.heap.size + 1) (by simp) ?_; intro gg cap w10 own10 hg10 hat10 hlt10; have k10 : Below w.heap.size w w10 := Below.trans (k7.alloc k7.size _) (below_of_grown (own7.alloc (.cells #[.int .i64 x] 3)) (by have := k7.size; simp; omega) hg10); have hr11 := hr1 w10 (some ⟨gg, 0, none⟩) cap k10 (by rw [List.map_append]; exact own10))
          | (refine step_append_lies _ (by rfl) _ _ _ (by rfl) w.heap.size 3 ri _ 1 8 Try.underlying25 hi0 hz0 hz1 hz2 rfl (by omega) (.slice a7 sums.length c7) sums.length _ (by rfl) own7 _ 1 1 [.int .i64 x] (by rfl) (by rfl) (World.news_of_block (cs := #[.int .i64 x]) (t := 3) (fr := (0, 0)) lit7) (by simp [Value.oneCell']) (by omega) (by unfold maxLen; omega) (by omega) k7.size w7.heap.size rfl ?_; intro gg cap w10 own10 hg10 hat10 hlt10; have k10 : Below w.heap.size w w10 := Below.trans k7 (below_of_grown own7 k7.size hg10); have hr11 := hr1 w10 (some ⟨gg, 0, none⟩) cap k10 (by rw [List.map_append]; exact own10))
          | (go_at_call 80; refine hr11.mono ?_; rintro e w11 ⟨rfl, b11⟩; have k11 := k10.trans (b11.mono k10.size))
          | fail)
      all_goals
        clear hr1
        obtain ⟨G, hG⟩ : ∃ G : Int → Nat → Int, G = fun m j => max m (bestF l k A (sums.set j (sums.getD j 0 + x))) := ⟨_, rfl⟩
        have HG : Hid (B = (List.range sums.length).foldl G B1) := Lib.hid (by rw [HB2.out, HB1.out, hG])
        have HGs : Hid (∀ j, (List.range (j + 1)).foldl G B1 = max ((List.range j).foldl G B1) (bestF l k A (sums.set j (sums.getD j 0 + x)))) := Lib.hid fun j => by rw [List.range_succ, List.foldl_append, hG]; rfl
        clear hG
        go_wp2
        go_loopw [8, 9, 10] (fun u v _ X => ∃ j : Nat, j ≤ sums.length ∧ v = .int .i64 j ∧ u = .int .i64 ((List.range j).foldl G B1) ∧ Below w.heap.size w X) (fun _ v _ _ => sums.length - (intOf v).toNat)
        case atStart => exact ⟨0, Nat.zero_le _, rfl, rfl, k11⟩
        case round =>
          obtain ⟨j, hj, rfl, rfl, hbX⟩ := hrel
          rename World => X
          by_cases hlt : j < sums.length
          · have hjI : (j : Int) < (sums.length : Int) := by omega
            have hgs := HGs.out j
            obtain ⟨M, hM⟩ : ∃ M, (List.range j).foldl G B1 = M := ⟨_, rfl⟩
            rw [hM] at hgs ⊢
            have hsj := hsb.at_ j hlt
            obtain ⟨s, hse⟩ : ∃ s, sums.getD j 0 = s := ⟨_, rfl⟩
            rw [hse] at hgs hsj
            have Hse := Lib.hid hse
            have wS : IntKind.i64.wrap (s + x) = s + x := IntWalk.i64_in _ (by omega)
            have hsb2 : BdI (sums.set j (s + x)) (100000 * (A : Int)) := (hsb.set j (s + x) (100000 * (A : Int)) (by omega) (by omega))
            have hR2 := fun (W : World) (g cc : Nat) (b : Below w.heap.size w W) (hR : RowI W g (sums.set j (s + x))) => Hih.out A hAk (sums.set j (s + x)) (some ⟨g, 0, none⟩) cc W (hx.below b) hR.ints (fun h => by cases h) (by simp; omega) hsb2
            obtain ⟨N, hN⟩ : ∃ N, bestF l k A (sums.set j (s + x)) = N := ⟨_, rfl⟩
            rw [hN] at hgs
            simp only [hN, List.length_set] at hR2
            have Hgs := Lib.hid hgs
            clear hgs hM hse hN hsb2
            have hcl2 := below_cell hbX hcl
            have lcl2 := cell_ltK hcl2
            go_wp2_with (at_builtin; refine wpList_app elInt rfl _ _ rfl X.heap.size _ _ _ _ rfl (OwnL.lit #[] (Nat.le_refl _) (by decide) rfl) sa sums.length cs _ rfl hnn (by simp) (sv _ (hbX.alloc hbX.size _)) (fun u hu => by obtain ⟨z, _, rfl⟩ := List.mem_map.1 hu; rfl) (by unfold maxLen; omega) (by omega) (by simp) ?_; intro a3 c3 X3 own3 b3)
            obtain ⟨g, rfl⟩ : ∃ g, a3 = some ⟨g, 0, none⟩ := by
              rcases own3.form with ⟨_, _, h, _⟩ | ⟨g, h, _⟩
              · omega
              · exact ⟨g, h⟩
            obtain ⟨hgb, hrow⟩ := own3.row
            have hR : RowI X3 g sums := by simpa [RowI] using hrow
            have bX3 : Below w.heap.size w X3 := (hbX.alloc hbX.size _).trans (b3.mono hbX.size)
            have hgw : w.heap.size ≤ g := Nat.le_trans hbX.size hgb
            have cs3 := hR.cell hlt
            rw [Hse.out] at cs3
            have hcl3 := below_cell bX3 hcl
            have lg3 := hR.lt
            have lcl3 := cell_ltK hcl3
            clear hrow own3 hcl2 lcl2
            (refine wp_region_seq 10 [] [10] 78 [true, true, true, true, true, true, true, true, true, true] [] (by kernel_rfl) (by kernel_rfl) rfl mono_nil ?_; simp only [pickOps, List.filterMap_cons, List.filterMap_nil, List.getElem?_toArray, List.getElem?_cons_succ, List.getElem?_cons_zero]; (repeat (refine wpFl_step _ rfl (fun w => (by go_simp; rfl)) ?_)); refine wpFl_nil ?_; simp only [maskOps, dummy, Act.put, List.setIfInBounds_toArray, List.set_cons_zero, List.set_cons_succ, List.take_succ_cons, List.take_zero, List.drop_succ_cons, List.drop_zero]; (repeat (refine wpQB_step (fun K hK => ?_); go_simp; first | (refine hK _ ?_; clear hK K) | (apply Exists.intro; refine ⟨fun ex => ?_, hK _ ?_⟩; (fail); clear hK K))); refine wpQB_nil ?_; simp only [relObl2, under, relEnd, and_true, List.nil_append, List.cons_append])
            refine ⟨trivial, fun e => ?_⟩
            have b4 := e.below
            obtain ⟨X4, hX4⟩ : ∃ x : World, x = e.to := ⟨_, rfl⟩
            rw [← hX4] at b4 ⊢
            clear hX4 e
            have cs4 := below_cell b4 cs3
            have fs4 := (hR.below b4).frozen j
            have lg4 := Nat.lt_of_lt_of_le lg3 b4.size
            clear cs3 hcl3 lg3 lcl3
            go_upto_region 16 with fail
            obtain ⟨X5, hX5⟩ : ∃ z : World, z = X4.setCell ⟨g, j, none⟩ (.int .i64 (s + x)) := ⟨_, rfl⟩
            have hR5 : RowI X5 g (sums.set j (s + x)) := by rw [hX5]; exact (hR.below b4).set j _
            have b5 : Below w.heap.size w X5 := by rw [hX5]; exact (bX3.trans (b4.mono bX3.size)).setCell (p := ⟨g, j, none⟩) hgw _
            rw [← hX5]
            clear hX5 cs4 fs4 lg4
            have hr5 := hR2 X5 g c3 b5 hR5
            rcases Int.lt_or_le M N with hlt2 | hle2
            · have hmx : (if M < N then N else M) = N := if_pos hlt2
              have hmax : max M N = N := by omega
              go_wp2_with (go_at_call 80; (with_reducible refine hr5.mono ?_); rintro e X6 ⟨rfl, b6⟩)
              go_roundw
              case rel => exact ⟨j + 1, by omega, by go_num, by rw [Hgs.out, hmax], b5.trans (b6.mono b5.size)⟩
              case measure => simp [intOf]; omega
            · have hmx : (if M < N then N else M) = M := if_neg (by omega)
              have hmax : max M N = M := by omega
              go_wp2_with (go_at_call 80; (with_reducible refine hr5.mono ?_); rintro e X6 ⟨rfl, b6⟩)
              go_roundw
              case rel => exact ⟨j + 1, by omega, by go_num, by rw [Hgs.out, hmax], b5.trans (b6.mono b5.size)⟩
              case measure => simp [intOf]; omega
          · obtain rfl : j = sums.length := by omega
            rw [← HG.out]
            go_wp2
            go_ret
            exact ⟨rfl, hbX⟩
end
end Go.Proofs.Ytomjlmhnjgohdaa
