/- book: the iterator over the records of a file -/
import Derived.Test.YticjeianiahppaaGreatDoorGk
import Derived.Test.YticjeianiahppaaGreatDoorGn
import Derived.RangeFuncNested
import Derived.RangeFuncBound
import Derived.RangeFuncCalls
import Derived.RangeFuncLeaves
import Derived.RangeFuncBox
import Derived.Shelf.Abstract
import Derived.Shelf.RegionOpen
import Derived.OwnWalkIn
import Derived.TacticsInMore
import Derived.LoopNIn
import Derived.LoopIn
namespace Go.Proofs.YticjeianiahppaaGreatDoor
set_option linter.unusedVariables false
set_option linter.unusedSimpArgs false
set_option linter.unnecessarySimpa false
open Go.RowKit Go.Flow Go.Shelf
/-- The cells below n₀, but those of some blocks, hold what they held. -/
structure KY (n₀ : Nat) (bs : List Nat) (W W' : World) : Prop where
  size : W.heap.size ≤ W'.heap.size
  b8 : Below 8 W W'
  cell : ∀ (a : Addr) (v : Value), a.block < n₀ → a.block ∉ bs → W.cell? a = some v → W'.cell? a = some v
theorem KY.refl (n₀ : Nat) (bs : List Nat) (W : World) : KY n₀ bs W W := ⟨Nat.le_refl _, Below.refl _ _, fun _ _ _ _ h => h⟩
theorem KY.trans {n₀ : Nat} {bs : List Nat} {A B C : World} (h : KY n₀ bs A B) (k : KY n₀ bs B C) : KY n₀ bs A C := ⟨Nat.le_trans h.size k.size, h.b8.trans k.b8, fun a v hl hn hc => k.cell a v hl hn (h.cell a v hl hn hc)⟩
theorem KY.below {n₀ : Nat} {bs : List Nat} {W W' : World} (h8 : 8 ≤ W.heap.size) (hb : Below W.heap.size W W') : KY n₀ bs W W' := ⟨hb.size, hb.mono h8, fun _ _ _ _ h => zAA hb h⟩
theorem KY.below' {n₀ : Nat} {bs : List Nat} {W W' : World} (h8 : 8 ≤ n₀) (hb : Below n₀ W W') : KY n₀ bs W W' := ⟨hb.size, hb.mono h8, fun _ _ hl _ h => by rw [hb.cell hl]; exact h⟩
theorem KY.putObj {n₀ : Nat} {bs : List Nat} (W : World) (l : Nat) (o o' : Obj) (h8 : 8 ≤ l) (h : W.heap[l]? = some o) (ho : o.isCells = false) : KY n₀ bs W (W.putObj l o') :=
  ⟨(grownBy_putObj' W l o').size, (Below.refl 8 W).grown (grownBy_putObj' W l o') (by have := (Array.getElem?_eq_some_iff.1 h).1; omega) (fun k e => by cases e; exact h8), fun a v _ _ hc => cell_kept hc (grownBy_putObj' W l o') (fun r e => by cases e; exact ⟨o, h, ho⟩)⟩
theorem KY.setCell {n₀ : Nat} {bs : List Nat} (W : World) (b k : Nat) (v : Value) (hb : b ∈ bs) (h8 : 8 ≤ b) : KY n₀ bs W (W.setCell ⟨b, k, none⟩ v) :=
  ⟨by simp, (Below.refl 8 W).setCell (p := ⟨b, k, none⟩) h8 v, fun a u _ hn hc => by rw [World.cell?_setCell_other _ _ _ _ (fun e => hn (by rw [← e]; exact hb))]; exact hc⟩
theorem KY.src {n₀ : Nat} {bs : List Nat} {W W' : World} (h : KY n₀ bs W W') {a : Option Addr} {xs : List Value} (hs : SrcAt W a xs) (ha : ∀ p, a = some p → p.block < n₀ ∧ p.block ∉ bs) : SrcAt W' a xs := fun j u hu => by
  obtain ⟨b, off, e, hc⟩ := hs j u hu
  obtain ⟨h1, h2⟩ := ha _ e
  exact ⟨b, off, e, h.cell ⟨b, off + j, none⟩ u h1 h2 hc⟩
/-- A record and where it ends, as values. -/
def encE (x : List UInt8 × Nat) : Array Value := #[.string ⟨x.1.toArray⟩, .int .i64 (x.2 : Int)]
/-- A record, in a block of its own. -/
def RecV (y : List UInt8) (n : Nat) (v : Value) (w : World) : Prop := ∃ g, v = .slice (some ⟨g, 0, none⟩) n n ∧ Cells w g (zBL y) 5
theorem RecV.kept {y : List UInt8} {n : Nat} {v : Value} {w w' : World} (h : RecV y n v w) (hb : Below w.heap.size w w') : RecV y n v w' := let ⟨g, h1, h2⟩ := h; ⟨g, h1, h2.below hb⟩
def IsV (u v : Value) (_ : World) : Prop := v = u
theorem headOf_as (x : ByteArray) (S : List UInt8) (nn i : Nat) (w : World) (hx : x = ⟨S.toArray⟩) (hS : S.length = nn) (hs : nn ≤ 80) (hi : i ≤ 1000) :
    Calls Tryz.prog 182 #[.string x, .int .i64 (i : Int)] w fun e w' => e = .returned (.agg #[.int .i64 (nn : Int), .int .i64 (chkL S i : Int)]) ∧ Below w.heap.size w w' := by
  subst hx hS; exact zKr ⟨S.toArray⟩ i w (by show S.length ≤ 1000; omega) hi
theorem record_as (x : ByteArray) (S : List UInt8) (nn i : Nat) (w : World) (hx : x = ⟨S.toArray⟩) (hS : S.length = nn) (hs : nn ≤ 80) (hi : i ≤ 1000) :
    Calls Tryz.prog 177 #[.string x, .int .i64 (i : Int)] w fun e w' => (∃ v, e = .returned v ∧ RecV (recL S i) (nn + 10) v w') ∧ Below w.heap.size w w' := by
  subst hx hS
  refine (zKU ⟨S.toArray⟩ i w (by show S.length ≤ 900; omega) hi).mono ?_
  rintro e w' ⟨⟨g, rfl, _, hc⟩, b⟩
  exact ⟨⟨_, rfl, g, rfl, hc⟩, b⟩
theorem equalB_as (a b : Option Addr) (c d n m : Nat) (x y : List UInt8) (r : Bool) (w : World) (en : x.length = n) (em : y.length = m) (hr : decide (x = y) = r) (hx : SrcAt w a (zDB x)) (hy : SrcAt w b (zDB y)) (h : n ≤ 100000) :
    Calls Tryz.prog 183 #[.slice a n c, .slice b m d] w fun e w' => e = .returned (.bool r) ∧ Below w.heap.size w w' := by
  subst en em hr; exact equalB_any a b c d x y w hx hy h
attribute [local go_sem] Oper.semAt_some
set_option maxRecDepth 100000 in
set_option maxHeartbeats 40000000 in
theorem records_stops (n : Nat) (hn : 2 ≤ n) (n₀ Bb m : Nat) (ab : Option Addr) (cb : Nat) (bs : List Nat) (L : List UInt8) (w : World) (en : L.length = m) (hm : m ≤ 9000) (hc : m ≤ cb) (h0 : w.cell? ⟨Bb, 0, none⟩ = some (.slice ab m cb)) (hs : SrcAt w ab (zDB L)) (hB : Bb < n₀) (hBn : Bb ∉ bs)
    (hab : 0 < m → ∀ p, ab = some p → p.block < n₀ ∧ p.block ∉ bs) (hv : Vars w) :
    SeqStopsK Fence.wide n Tryz.prog 178 #[.pointer (some ⟨Bb, 0, none⟩)] encE (KY n₀ bs) (fun xs => xs = recsE L (m + 50) 0 0) (fun pre => pre <+: recsE L (m + 50) 0 0) (m + 50) w := fun l J Jx W hW hJ hJx hY hs0 => by
  have h0' := zAA hW h0
  have hs' := zAO hs hW
  have hv' := hv.below hW
  have h8 := hv'.lt
  clear hW h0 hs hv
  have h1n : 1 ≤ n := by omega
  refine callsIn_of_wp Tryz.func178 rfl trivial ?_ rfl
  simp only [Tryz.ntmps178, List.size_toArray, List.length_cons, List.length_nil, Nat.reduceAdd, Nat.reduceSub, Array.replicate_succ, Array.replicate_zero, List.push_toArray, List.append_toArray, List.nil_append, List.cons_append]
  gi_wp2
  gi_loopw [3, 4] (fun a i wr => ∃ (k at_ : Nat) (pre : List (List UInt8 × Nat)), a = .int .i64 at_ ∧ i = .int .i64 k ∧ J pre wr ∧ KY n₀ bs W wr ∧ pre.length = k ∧ 10 * k ≤ at_ ∧ at_ ≤ m ∧ recsE L (m + 50) 0 0 = pre ++ recsE L (m + 50 - k) at_ k) (fun a _ _ => m - (intOf a).toNat)
  case atStart => exact ⟨0, 0, [], rfl, rfl, hs0, KY.refl _ _ _, rfl, by omega, by omega, rfl⟩
  case round =>
    obtain ⟨k, at_, pre, rfl, rfl, hJ1, hck, hpk, hk10, hat, hrec⟩ := hrel
    have p1 := hck.cell _ _ hB hBn h0'
    have hvr : Vars wr := hv'.under hck.b8
    have hpl : pre.length < m + 50 := by omega
    replace hrec := Lib.hid hrec
    have lB := zBl p1
    simp only at lB
    have w1 : IntKind.i64.wrap ((m : Int) - at_) = (m : Int) - at_ := IntWalk.i64_in _ (by omega)
    by_cases hlt : 9 < m - at_
    · have hltI : (9 : Int) < (m : Int) - at_ := by omega
      have hsr := hck.src hs' (hab (by omega))
      gi_wp2
      refine zLT 6 (by kernel_rfl) (by kernel_rfl) (by kernel_rfl) ?_
      simp only [List.take_succ_cons, List.take_zero, List.drop_succ_cons, List.drop_zero]
      (repeat (go_big_quiet_step ((go_at_call 179; exact zCj (zGo _)))))
      refine wpQuiet_nil ?_
      rintro _ ⟨ex, rfl⟩
      have x2 := ex.below
      obtain ⟨W2, hX⟩ : ∃ z : World, z = ex.to := ⟨_, rfl⟩
      rw [← hX] at x2 ⊢
      clear hX ex
      have p2 := zAA x2 p1
      have l2 := zBl p2
      obtain ⟨b, off, rfl, lb⟩ := src_addr hsr (by omega)
      have srD : SrcAt wr (some ⟨b, off + at_, none⟩) (zDB (L.drop at_)) := by
        have := src_sub hsr at_ (m - at_)
        rwa [List.take_of_length_le (by rw [List.length_drop]; omega)] at this
      have eD : (L.drop at_).length = m - at_ := by rw [List.length_drop, en]
      obtain ⟨D, hD⟩ : ∃ D, L.drop at_ = D := ⟨_, rfl⟩
      rw [hD] at srD eD
      have hcn : ¬ cb = at_ := by omega
      have a0 : (0 : Int) ≤ (at_ : Int) := by omega
      have a1 : (at_ : Int) ≤ (m : Int) := by omega
      have a2 : (at_ : Int) ≤ (cb : Int) := by omega
      have hin := headIn_any (some ⟨b, off + at_, none⟩) (cb - at_) (m - at_) D W2 eD (zAO srD x2) (by omega) (by omega) (by omega) (hvr.below x2)
      obtain ⟨hb1, hb2, hb3, hb4⟩ := head_bd D
      obtain ⟨⟨hn, hx⟩, hF⟩ : ∃ z : Int × Int, headF D = z := ⟨_, rfl⟩
      rw [hF] at hin hb1 hb2 hb3 hb4
      simp only at hin hb1 hb2 hb3 hb4
      replace hF := Lib.hid hF
      replace hD := Lib.hid hD
      replace eD := Lib.hid eD
      gi_wp2_with (refine ⟨trivial, ?_⟩; gi_at_call 180; refine (callsIn_wide.2 hin).mono ?_; rintro e W3 ⟨rfl, x3⟩)
      obtain ⟨W4, hW4⟩ : ∃ z : World, z = W3.alloc (.cells #[.int .i64 hn, .int .i64 hx] 296) := ⟨_, rfl⟩
      have x4 : Below W3.heap.size W3 W4 := by rw [hW4]; exact Joins.below_alloc1 _ _
      have C4 : Cells W4 W3.heap.size #[.int .i64 hn, .int .i64 hx] 296 := by rw [hW4]; exact Cells.new _ _ _
      rw [← hW4]
      clear hW4
      have t4 : Below wr.heap.size wr W4 := (x2.trans (x3.mono x2.size)).trans (x4.mono (Nat.le_trans x2.size x3.size))
      generalize W3.heap.size = g at C4 ⊢
      clear hin x2 x3 x4 p2 l2 w1 hsr
      have q0 := C4.cell 0
      have q1 := C4.cell 1
      simp at q0 q1
      have lC := C4.lt
      gi_wp2
      refine zLT 7 (by kernel_rfl) (by kernel_rfl) (by kernel_rfl) ?_
      simp only [List.take_succ_cons, List.take_zero, List.drop_succ_cons, List.drop_zero]
      (repeat (go_big_quiet_step ((go_at_call 179; exact zCj (zGo _)))))
      refine wpQuiet_nil ?_
      rintro _ ⟨ex, rfl⟩
      have x5 := ex.below
      obtain ⟨W5, hX⟩ : ∃ z : World, z = ex.to := ⟨_, rfl⟩
      rw [← hX] at x5 ⊢
      clear hX ex
      have t5 := t4.trans (x5.mono t4.size)
      have C5 := C4.below x5
      have p5 := zAA t5 p1
      have l5 := zBl p5
      clear q0 q1 lC t4 x5 C4
      have q0 := C5.cell 0
      have q1 := C5.cell 1
      simp at q0 q1
      have lC := C5.lt
      have hso : ∀ s, recAt D k = some s → hn = (s.length : Int) ∧ hx = (chkL s k : Int) ∧ s.length ≤ 80 ∧ 10 + s.length ≤ m - at_ ∧ (D.drop 9).take s.length = s ∧ D.take (10 + s.length) = recL s k := fun s h => by
        obtain ⟨r1, r2, r3, r4, r5⟩ := rec_read h
        rw [hF.out] at r1
        simp only [Prod.mk.injEq] at r1
        rw [eD.out] at r3
        exact ⟨r1.1, r1.2, r2, r3, r4, r5⟩
      have none_of : (∀ s, recAt D k ≠ some s) → recAt (L.drop at_) k = none := fun h => by
        rw [hD.out]
        cases e : recAt D k with
        | none => rfl
        | some s => exact absurd e (h s)
      replace hso := Lib.hid hso
      by_cases hr : 0 ≤ hn ∧ hn ≤ 80
      · have hwi := zA6 hn 0 80 true (Lib.hid (by simp; omega)) W5
        obtain ⟨nn, rfl⟩ : ∃ nn : Nat, hn = (nn : Int) := ⟨hn.toNat, by omega⟩
        by_cases hend : at_ + 10 + nn ≤ m
        · have hendI : ¬ (m : Int) < (at_ : Int) + 9 + (nn : Int) + 1 := by omega
          gi_wp2_with (refine ⟨trivial, ?_⟩; gi_at_call 181; refine (callsIn_wide.2 hwi).mono ?_; rintro e _ ⟨rfl, rfl⟩)
          have ea : off + at_ + 9 = off + (at_ + 9) := by omega
          have srS : SrcAt wr (some ⟨b, off + (at_ + 9), none⟩) (zDB ((D.drop 9).take nn)) := by rw [← ea]; exact src_sub srD 9 nn
          have hS : ((D.drop 9).take nn).length = nn := by have := eD.out; rw [List.length_take, List.length_drop]; omega
          obtain ⟨S, hSe⟩ : ∃ S, (D.drop 9).take nn = S := ⟨_, rfl⟩
          rw [hSe] at srS hS
          replace hSe := Lib.hid hSe
          obtain ⟨x, hx2⟩ : ∃ x : ByteArray, x = ⟨S.toArray⟩ := ⟨_, rfl⟩
          have cv := fun (e : Ext W5) c => conv_str e.to (some ⟨b, off + (at_ + 9), none⟩) c (at_ + 9 + nn - (at_ + 9)) S (by omega) (zAO srS (t5.trans (e.below.mono t5.size)))
          have cv2 := fun (e : Ext W5) c => conv_str e.to (some ⟨b, off + (at_ + 9), none⟩) c nn S hS (zAO srS (t5.trans (e.below.mono t5.size)))
          rw [← hx2] at cv cv2
          replace hx2 := Lib.hid hx2
          replace hS := Lib.hid hS
          have f4 : (at_ : Int) + 9 + (nn : Int) ≤ (cb : Int) := by omega
          have f5 : ¬ cb = at_ + 9 := by omega
          clear ea srS
          gi_wp2
          refine zLT 8 (by kernel_rfl) (by kernel_rfl) (by kernel_rfl) ?_
          simp only [List.take_succ_cons, List.take_zero, List.drop_succ_cons, List.drop_zero]
          (repeat (go_big_quiet_step ((go_at_call 179; exact zCj (zGo _)))))
          refine wpQuiet_nil ?_
          rintro _ ⟨ex, rfl⟩
          have x7 := ex.below
          obtain ⟨W7, hX⟩ : ∃ z : World, z = ex.to := ⟨_, rfl⟩
          rw [← hX] at x7 ⊢
          clear hX ex
          have t7 := t5.trans (x7.mono t5.size)
          have C7 := C5.below x7
          have p7 := zAA x7 p5
          have l7 := zBl p7
          clear q0 q1 lC cv cv2 p5 l5 C5
          have q0 := C7.cell 0
          have q1 := C7.cell 1
          simp at q0 q1
          have lC := C7.lt
          have hk1 : k ≤ 1000 := by omega
          have hho := fun W => headOf_as x S nn k W hx2.out hS.out (by omega) hk1
          have hrc := fun W => record_as x S nn k W hx2.out hS.out (by omega) hk1
          obtain ⟨ck, hck2⟩ : ∃ ck, chkL S k = ck := ⟨_, rfl⟩
          rw [hck2] at hho
          have eT : (D.take (10 + nn)).length = at_ + 9 + nn + 1 - at_ := by have := eD.out; rw [List.length_take]; omega
          have eR : (recL S k).length = nn + 10 := by rw [zLh]; have := hS.out; omega
          have f6 : (at_ : Int) + 9 + (nn : Int) + 1 ≤ (cb : Int) := by omega
          have srT : ∀ V, Below wr.heap.size wr V → SrcAt V (some ⟨b, off + at_, none⟩) (zDB (D.take (10 + nn))) := fun V h => zAO (by have := src_sub srD 0 (10 + nn); simpa using this) h
          have g1 : (0 : Int) ≤ (at_ : Int) + 9 + (nn : Int) + 1 := by omega
          have g2 : ((at_ : Int) + 9 + (nn : Int) + 1).toNat = at_ + 9 + nn + 1 := by omega
          have g3 : at_ ≤ at_ + 9 + nn + 1 := by omega
          replace eT := Lib.hid eT
          replace eR := Lib.hid eR
          by_cases hcx : hx = (ck : Int)
          · obtain ⟨r, hr2⟩ : ∃ r, decide (recL S k = D.take (10 + nn)) = r := ⟨_, rfl⟩
            have heqc := fun (g : Nat) (V : World) (h : Below W7.heap.size W7 V) (hc : Cells V g (zBL (recL S k)) 5) => equalB_as (some ⟨g, 0, none⟩) (some ⟨b, off + at_, none⟩) (nn + 10) (cb - at_) (nn + 10) (at_ + 9 + nn + 1 - at_) (recL S k) (D.take (10 + nn)) r V eR.out eT.out hr2 (by have := hc.src; rwa [zJL] at this) (srT V (t7.trans (h.mono t7.size))) (by omega)
            subst hcx
            cases r
            · have hno := none_of fun s h => by
                obtain ⟨r1, r2, r3, r4, r5, r6⟩ := hso.out s h
                have e1 : s.length = nn := by omega
                rw [e1] at r5 r6
                have e2 : S = s := hSe.out.symm.trans r5
                rw [e2, r6] at hr2
                simp at hr2
              gi_wp2
              refine wpIn_region_seqG opF_wide 20 [20, 21, 22] 69 [true, true, true, true, true, true, true, true, false, true, true, true, true, false, false, false, false, false, false, false] [RecV (recL S k) (nn + 10), IsV (.bool false), IsV (.bool true), IsV (.bool true), IsV (.bool true), IsV undef, IsV undef, IsV undef] (by kernel_rfl) (by kernel_rfl) (by kernel_rfl) rfl (zAB (fun v w w' h hb => RecV.kept h hb) (zAB (fun v w w' h hb => h) (zAB (fun v w w' h hb => h) (zAB (fun v w w' h hb => h) (zAB (fun v w w' h hb => h) (zAB (fun v w w' h hb => h) (zAB (fun v w w' h hb => h) (zAB (fun v w w' h hb => h) zAR)))))))) ?_
              simp only [zAF, zAt, zAU, List.filterMap_cons, List.filterMap_nil, List.getElem?_toArray, List.getElem?_cons_succ, List.getElem?_cons_zero, Act.put, List.setIfInBounds_toArray, List.set_cons_zero, List.set_cons_succ, List.take_succ_cons, List.take_zero, List.drop_succ_cons, List.drop_zero]
              (repeat (refine zAL (fun K hK => ?_); go_simp; first | (refine hK _ ?_; clear hK K) | (apply Exists.intro; refine ⟨fun ex => ?_, hK _ ?_⟩; (go_at_call 182; exact hho _); clear hK K)))
              refine zAQ ?_
              simp only [relOblG, under, zAZ, and_true, List.nil_append, List.cons_append]
              refine ⟨⟨?_, ?_, ?_, ?_, ?_, ?_, ?_, ?_⟩, ?_⟩
              · intro e
                refine .inl ⟨by kernel_rfl, ?_⟩
                go_simp
                refine (hrc e.to).mono ?_
                rintro _ _ ⟨⟨v, rfl, hT⟩, b⟩
                exact ⟨b, hT⟩
              · intro e v1 h1
                obtain ⟨g, rfl, hc⟩ := h1 (by kernel_rfl)
                refine .inl ⟨by kernel_rfl, ?_⟩
                go_simp
                refine (heqc g e.to e.below hc).mono ?_
                rintro _ _ ⟨rfl, b⟩
                exact ⟨b, rfl⟩
              · intro e v1 _ v2 h2
                obtain rfl : v2 = _ := h2 (by kernel_rfl)
                refine .inl ⟨by kernel_rfl, ?_⟩
                go_simp
                exact ⟨Below.refl _ _, rfl⟩
              · intro e v1 _ v2 _ v3 h3
                obtain rfl : v3 = _ := h3 (by kernel_rfl)
                refine .inl ⟨by kernel_rfl, ?_⟩
                go_simp
                exact ⟨Below.refl _ _, rfl⟩
              · intro e v1 _ v2 _ v3 _ v4 h4
                obtain rfl : v4 = _ := h4 (by kernel_rfl)
                refine .inl ⟨by kernel_rfl, ?_⟩
                go_simp
                exact ⟨Below.refl _ _, rfl⟩
              · intro e v1 _ v2 _ v3 _ v4 _ v5 h5
                obtain rfl : v5 = _ := h5 (by kernel_rfl)
                exact .inr ⟨by kernel_rfl, rfl⟩
              · intro e v1 _ v2 _ v3 _ v4 _ v5 h5 v6 _
                obtain rfl : v5 = _ := h5 (by kernel_rfl)
                exact .inr ⟨by kernel_rfl, rfl⟩
              · intro e v1 _ v2 _ v3 _ v4 _ v5 h5 v6 _ v7 _
                obtain rfl : v5 = _ := h5 (by kernel_rfl)
                exact .inr ⟨by kernel_rfl, rfl⟩
              intro e
              rintro v1 - v2 - v3 - v4 - v5 h5 v6 h6 v7 h7 v8 h8x
              obtain rfl : v5 = _ := h5
              obtain rfl : v6 = _ := h6
              obtain rfl : v7 = _ := h7
              obtain rfl : v8 = _ := h8x
              simp only [Act.put, List.setIfInBounds_toArray, List.set_cons_zero, List.set_cons_succ]
              have x8 := e.below
              obtain ⟨W8, hX⟩ : ∃ z : World, z = e.to := ⟨_, rfl⟩
              rw [← hX] at x8 ⊢
              clear hX e
              have t8 := t7.trans (x8.mono t7.size)
              gi_wp2
              refine ⟨fun _ h => (by cases h), ?_⟩
              gi_wp2
              refine bodyPost_ret (results_none rfl _ _ _) rfl ?_
              exact ⟨⟨_, rfl⟩, .inl ⟨_, rfl, by rw [hrec.out, recs_none hno, List.append_nil]; exact hJ _ _ _ none hJ1 (Cps.zAg t8 none) (fun r e => by cases e)⟩⟩
            · have hyes : recAt D k = some S := by
                have e1 := of_decide_eq_true hr2
                have := recAt_rec (s := S) k (D.drop (10 + nn)) (by have := hS.out; omega)
                rwa [e1, List.take_append_drop] at this
              gi_wp2
              refine wpIn_region_seqG opF_wide 20 [20, 21, 22] 69 [true, true, true, true, true, true, true, true, false, true, true, true, true, false, false, false, false, false, false, false] [RecV (recL S k) (nn + 10), IsV (.bool true), IsV (.bool false), IsV (.bool false), IsV (.bool false), IsV (.func (.yield l) #[] #[]), IsV (.string x), IsV (.int .i64 ((at_ : Int) + 9 + (nn : Int) + 1))] (by kernel_rfl) (by kernel_rfl) (by kernel_rfl) rfl (zAB (fun v w w' h hb => RecV.kept h hb) (zAB (fun v w w' h hb => h) (zAB (fun v w w' h hb => h) (zAB (fun v w w' h hb => h) (zAB (fun v w w' h hb => h) (zAB (fun v w w' h hb => h) (zAB (fun v w w' h hb => h) (zAB (fun v w w' h hb => h) zAR)))))))) ?_
              simp only [zAF, zAt, zAU, List.filterMap_cons, List.filterMap_nil, List.getElem?_toArray, List.getElem?_cons_succ, List.getElem?_cons_zero, Act.put, List.setIfInBounds_toArray, List.set_cons_zero, List.set_cons_succ, List.take_succ_cons, List.take_zero, List.drop_succ_cons, List.drop_zero]
              (repeat (refine zAL (fun K hK => ?_); go_simp; first | (refine hK _ ?_; clear hK K) | (apply Exists.intro; refine ⟨fun ex => ?_, hK _ ?_⟩; (go_at_call 182; exact hho _); clear hK K)))
              refine zAQ ?_
              simp only [relOblG, under, zAZ, and_true, List.nil_append, List.cons_append]
              refine ⟨⟨?_, ?_, ?_, ?_, ?_, ?_, ?_, ?_⟩, ?_⟩
              · intro e
                refine .inl ⟨by kernel_rfl, ?_⟩
                go_simp
                refine (hrc e.to).mono ?_
                rintro _ _ ⟨⟨v, rfl, hT⟩, b⟩
                exact ⟨b, hT⟩
              · intro e v1 h1
                obtain ⟨g, rfl, hc⟩ := h1 (by kernel_rfl)
                refine .inl ⟨by kernel_rfl, ?_⟩
                go_simp
                refine (heqc g e.to e.below hc).mono ?_
                rintro _ _ ⟨rfl, b⟩
                exact ⟨b, rfl⟩
              · intro e v1 _ v2 h2
                obtain rfl : v2 = _ := h2 (by kernel_rfl)
                refine .inl ⟨by kernel_rfl, ?_⟩
                go_simp
                exact ⟨Below.refl _ _, rfl⟩
              · intro e v1 _ v2 _ v3 h3
                obtain rfl : v3 = _ := h3 (by kernel_rfl)
                refine .inl ⟨by kernel_rfl, ?_⟩
                go_simp
                exact ⟨Below.refl _ _, rfl⟩
              · intro e v1 _ v2 _ v3 _ v4 h4
                obtain rfl : v4 = _ := h4 (by kernel_rfl)
                refine .inl ⟨by kernel_rfl, ?_⟩
                go_simp
                exact ⟨Below.refl _ _, rfl⟩
              · intro e v1 _ v2 _ v3 _ v4 _ v5 h5
                obtain rfl : v5 = _ := h5 (by kernel_rfl)
                refine .inl ⟨by kernel_rfl, ?_⟩
                go_simp
                exact ⟨Below.refl _ _, rfl⟩
              · intro e v1 _ v2 _ v3 _ v4 _ v5 h5 v6 _
                obtain rfl : v5 = _ := h5 (by kernel_rfl)
                refine .inl ⟨by kernel_rfl, ?_⟩
                go_simp
                exact ⟨Below.refl _ _, rfl⟩
              · intro e v1 _ v2 _ v3 _ v4 _ v5 h5 v6 _ v7 _
                obtain rfl : v5 = _ := h5 (by kernel_rfl)
                refine .inl ⟨by kernel_rfl, ?_⟩
                go_simp
                exact ⟨Below.refl _ _, rfl⟩
              intro e
              rintro v1 - v2 - v3 - v4 - v5 h5 v6 h6 v7 h7 v8 h8x
              obtain rfl : v5 = _ := h5
              obtain rfl : v6 = _ := h6
              obtain rfl : v7 = _ := h7
              obtain rfl : v8 = _ := h8x
              simp only [Act.put, List.setIfInBounds_toArray, List.set_cons_zero, List.set_cons_succ]
              have x8 := e.below
              obtain ⟨W8, hX⟩ : ∃ z : World, z = e.to := ⟨_, rfl⟩
              rw [← hX] at x8 ⊢
              clear hX e
              have t8 := t7.trans (x8.mono t7.size)
              have hr' : recAt (L.drop at_) k = some S := by rw [hD.out]; exact hyes
              have hstep := recs_some hr' (m + 50 - (k + 1))
              rw [hS.out] at hstep
              have hnew : Hid (recsE L (m + 50) 0 0 = (pre ++ [(S, at_ + 10 + nn)]) ++ recsE L (m + 50 - (k + 1)) (at_ + 10 + nn) (k + 1)) := Lib.hid (by
                rw [hrec.out, show m + 50 - k = m + 50 - (k + 1) + 1 by omega, hstep, List.append_assoc]; rfl)
              clear hr' hstep
              obtain ⟨fn, tmps, assign, body, hy, hR⟩ := hY pre (S, at_ + 10 + nn) W8 (hJ _ _ _ none hJ1 (Cps.zAg t8 none) (fun r e => by cases e)) hpl
              simp only [encE] at hy
              rw [← hx2.out, show ((at_ + 10 + nn : Nat) : Int) = (at_ : Int) + 9 + (nn : Int) + 1 by omega] at hy
              gi_wp2
              refine hR.mono ?_
              rintro e W9 (⟨rfl, hJ9, hk9⟩ | ⟨rfl, hJx9⟩)
              · gi_wp2
                go_roundw
                case rel => exact ⟨k + 1, at_ + 10 + nn, pre ++ [(S, at_ + 10 + nn)], by go_num, by go_num, hJ9, (hck.trans (KY.below hvr.lt t8)).trans hk9, by simp; omega, by omega, by omega, hnew.out⟩
                case measure => simp [intOf]; omega
              · gi_wp2
                refine bodyPost_ret (results_none rfl _ _ _) rfl ?_
                exact ⟨⟨_, rfl⟩, .inr ⟨_, ⟨_, hnew.out.symm⟩, hJx9⟩⟩
          · have hno := none_of fun s h => by
              obtain ⟨r1, r2, r3, r4, r5, r6⟩ := hso.out s h
              have e1 : s.length = nn := by omega
              rw [e1] at r5
              have e2 : S = s := hSe.out.symm.trans r5
              exact hcx (by rw [r2, ← e2, hck2])
            have hcy : ¬ (ck : Int) = hx := fun h => hcx h.symm
            gi_wp2
            refine zLT 20 (by kernel_rfl) (by kernel_rfl) (by kernel_rfl) ?_
            simp only [List.take_succ_cons, List.take_zero, List.drop_succ_cons, List.drop_zero]
            (repeat (go_big_quiet_step ((go_at_call 182; exact zCj (hho _)))))
            refine wpQuiet_nil ?_
            rintro _ ⟨ex, rfl⟩
            have x8 := ex.below
            obtain ⟨W8, hX⟩ : ∃ z : World, z = ex.to := ⟨_, rfl⟩
            rw [← hX] at x8 ⊢
            clear hX ex
            have t8 := t7.trans (x8.mono t7.size)
            gi_wp2
            refine ⟨fun _ h => (by cases h), ?_⟩
            gi_wp2
            refine bodyPost_ret (results_none rfl _ _ _) rfl ?_
            exact ⟨⟨_, rfl⟩, .inl ⟨_, rfl, by rw [hrec.out, recs_none hno, List.append_nil]; exact hJ _ _ _ none hJ1 (Cps.zAg t8 none) (fun r e => by cases e)⟩⟩
        · have hendI : (m : Int) < (at_ : Int) + 9 + (nn : Int) + 1 := by omega
          have hno := none_of fun s h => by
            have := hso.out s h
            omega
          gi_wp2_with (refine ⟨trivial, ?_⟩; gi_at_call 181; refine (callsIn_wide.2 hwi).mono ?_; rintro e _ ⟨rfl, rfl⟩)
          gi_wp2
          refine bodyPost_ret (results_none rfl _ _ _) rfl ?_
          exact ⟨⟨_, rfl⟩, .inl ⟨_, rfl, by rw [hrec.out, recs_none hno, List.append_nil]; exact hJ _ _ _ none hJ1 (Cps.zAg t5 none) (fun r e => by cases e)⟩⟩
      · have hwi := zA6 hn 0 80 false (Lib.hid (by simp; omega)) W5
        have hno := none_of fun s h => by
          have := hso.out s h
          omega
        gi_wp2_with (refine ⟨trivial, ?_⟩; gi_at_call 181; refine (callsIn_wide.2 hwi).mono ?_; rintro e _ ⟨rfl, rfl⟩)
        gi_wp2
        refine bodyPost_ret (results_none rfl _ _ _) rfl ?_
        exact ⟨⟨_, rfl⟩, .inl ⟨_, rfl, by rw [hrec.out, recs_none hno, List.append_nil]; exact hJ _ _ _ none hJ1 (Cps.zAg t5 none) (fun r e => by cases e)⟩⟩
    · have hltI : ¬ (9 : Int) < (m : Int) - at_ := by omega
      gi_wp2
      refine zLT 6 (by kernel_rfl) (by kernel_rfl) (by kernel_rfl) ?_
      simp only [List.take_succ_cons, List.take_zero, List.drop_succ_cons, List.drop_zero]
      (repeat (go_big_quiet_step ((go_at_call 179; exact zCj (zGo _)))))
      refine wpQuiet_nil ?_
      rintro _ ⟨ex, rfl⟩
      have x2 := ex.below
      obtain ⟨W2, hX⟩ : ∃ z : World, z = ex.to := ⟨_, rfl⟩
      rw [← hX] at x2 ⊢
      clear hX ex
      gi_wp2
      go_end0
      refine ⟨⟨_, rfl⟩, .inl ⟨_, rfl, ?_⟩⟩
      rw [hrec.out, recs_none (rec_short (by rw [List.length_drop]; omega)), List.append_nil]
      exact hJ _ _ _ none hJ1 (Cps.zAg x2 none) (fun r e => by cases e)
end Go.Proofs.YticjeianiahppaaGreatDoor
