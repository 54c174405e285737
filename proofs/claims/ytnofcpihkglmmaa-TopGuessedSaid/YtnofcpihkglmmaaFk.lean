/- flash: the closure that adds letters -/
import Derived.Test.YtnofcpihkglmmaaFj
import Derived.Deep.DeepCutAuto
namespace Go.Proofs.Ytnofcpihkglmmaa
set_option linter.unusedVariables false
set_option linter.unusedSimpArgs false
set_option linter.unnecessarySimpa false
open Go.RowKit Go.Flow
set_option maxRecDepth 100000 in
set_option maxHeartbeats 400000 in
theorem clone_f (a : Option Addr) (xs : List Int) (c : Nat) (w : World) (hx : IntsAt w a xs) (hn : a = none → xs = [] ∧ c = 0) (hl : xs.length ≤ 1000) :
    Calls Try.prog 46 #[.slice a xs.length c] w fun e w' => ∃ a' c', e = .returned (.slice a' xs.length c') ∧ OwnL 3 1 w.heap.size w' a' c' xs.length (xs.map (Value.int .i64)) ∧ Below w.heap.size w w' := by
  have hnil : ∀ w, (binOp .eql 26 (.slice a xs.length c) (.slice none 0 0)).run Try.prog w = .ok (.bool a.isNone) w := fun w => Lib.run_eql_slice_nil w _ _ _ _ _ _ _ Try.underlying26
  cases a with
  | none =>
    obtain ⟨rfl, rfl⟩ := hn rfl
    have hnil : ∀ w, (binOp .eql 26 (.slice none 0 0) (.slice none 0 0)).run Try.prog w = .ok (.bool true) w := fun w => Lib.run_eql_slice_nil w _ _ _ _ _ _ _ Try.underlying26
    show Calls Try.prog 46 #[.slice none 0 0] w _
    go_enter Try.func46, Try.ntmps46
    go_wp2
    go_ret
    exact ⟨none, 0, rfl, OwnL.nil _ _ _ _, Below.refl _ _⟩
  | some ad =>
    simp only [Option.isNone_some] at hnil
    go_enter Try.func46, Try.ntmps46
    go_wp2_with (at_builtin; refine wpList_app elIntF rfl _ _ rfl w.heap.size _ _ _ _ rfl (OwnL.lit #[] (Nat.le_refl _) (by decide) rfl) (some ad) xs.length c _ rfl (fun e => by cases e) (by simp) (SrcAt.ints (hx.below (by (repeat (first | exact Below.refl _ _ | refine Below.alloc ?_ (by first | omega | (simp; done) | (simp; omega)) _ | refine Below.drew ?_ | refine Below.setCell ?_ (by first | omega | (simp; done) | (simp; omega)) _ | refine Below.trans ?_ (Below.mono (by assumption) (by first | omega | (simp; done) | (simp; omega)))))))) (fun u hu => ?c3) (by unfold maxLen; omega) (by omega) (by simp) ?_)
    case c3 => obtain ⟨z, _, rfl⟩ := List.mem_map.1 hu; rfl
    intro a' c' w' h1 h2
    go_wp2
    go_ret
    exact ⟨a', c', by simp, by simpa using h1, ((Below.refl _ _).alloc (Nat.le_refl _) _).trans h2⟩

/-- What the closure finds in its cells. -/
structure EnvA (w : World) (B : Nat) (a : Option Addr) (n c : Nat) (s : ByteArray) (errs letters : Int) : Prop where
  t : Cells w B #[.slice a n c, .string s, .int .i64 errs] 99
  l : Cells w (B + 1) #[.int .i64 letters] 3
  f : Cells w (B + 3) #[.func (.func 75) #[] #[.pointer (some ⟨B, 0, none⟩), .pointer (some ⟨B + 1, 0, none⟩), .pointer (some ⟨B + 2, 0, none⟩), .pointer (some ⟨B + 3, 0, none⟩)]] 119
theorem EnvA.keep {w w' : World} {B : Nat} {a : Option Addr} {n c : Nat} {s : ByteArray} {errs letters : Int} {tb : Option Nat} (h : EnvA w B a n c s errs letters) (k : KeepT (B + 4) (B + 2) tb w w') (ht : ∀ g, tb = some g → B + 4 ≤ g) : EnvA w' B a n c s errs letters :=
  ⟨k.cells h.t (by decide) (by omega) (fun e => by have := ht _ e.symm; omega), k.cells h.l (by decide) (by omega) (fun e => by have := ht _ e.symm; omega), k.cells h.f (by decide) (by omega) (fun e => by have := ht _ e.symm; omega)⟩
/-- Within a region of the closure, before it calls itself. -/
structure Stt (B : Nat) (tb : Option Nat) (X : World) (c0 n : Nat) (a0 : Option Addr) (xs : List Value) (vs : List Value) (rows : List (List Int)) (w : World) : Prop where
  keep : KeepT (B + 4) (B + 2) tb X w
  below : Below B X w
  text : OwnL 3 1 (B + 4) w a0 c0 n xs
  out : OutAt (B + 4) (B + 2) w vs rows
theorem Stt.kept {B : Nat} {tb : Option Nat} {X : World} {c0 n : Nat} {a0 : Option Addr} {xs vs : List Value} {rows : List (List Int)} {w w' : World} (h : Stt B tb X c0 n a0 xs vs rows w) (hb : Below w.heap.size w w') (hB : B ≤ w.heap.size) : Stt B tb X c0 n a0 xs vs rows w' :=
  ⟨h.keep.trans (KeepT.of_below (tb := tb) hb) (.inl rfl), h.below.trans (hb.mono hB), h.text.kept hb, h.out.kept hb⟩
theorem Stt.grown {B : Nat} {tb : Option Nat} {X : World} {c0 n : Nat} {a0 : Option Addr} {xs vs : List Value} {rows : List (List Int)} {w w' : World} (h : Stt B tb X c0 n a0 xs vs rows w) (ht : tb = (Value.slice a0 n c0).ownBlock) (hap : ApartV tb vs) (hg : w.grownBy w' (Value.slice a0 n c0).ownBlock) (ho : OwnL 3 1 (B + 4) w' a0 c0 n xs) (hB : B ≤ w.heap.size) : Stt B tb X c0 n a0 xs vs rows w' := by
  subst ht
  have hge : ∀ g, (Value.slice a0 n c0).ownBlock = some g → B + 4 ≤ g := fun g e => (OwnL.block_ge h.text e).1
  exact ⟨h.keep.trans (KeepT.of_grown hg) (.inl rfl), h.below.trans ((Below.refl _ _).grown hg hB fun k e => by have := hge k e; omega), ho, h.out.grown hg (by omega) hap (fun e => by have := hge _ e.symm; omega) (OwnL.cellsAt h.text)⟩
theorem flat_len {α : Type} (F : Nat → List α) {k n : Nat} (h : k < n) : ((List.range k).flatMap F).length + (F k).length ≤ ((List.range n).flatMap F).length := by
  obtain ⟨d, rfl⟩ : ∃ d, n = k + 1 + d := ⟨n - (k + 1), by omega⟩
  rw [List.range_add, List.flatMap_append, List.length_append, List.range_succ, List.flatMap_append, List.length_append, List.flatMap_singleton]
  omega
/-- A literal of one list: a row with the list's own. -/
def LitRow (base n : Nat) (xs : List Value) (v : Value) (w : World) : Prop := ∃ g a c, v = .slice (some ⟨g, 0, none⟩) 1 1 ∧ base ≤ g ∧ Cells w g #[.slice a n c] 26 ∧ OwnL 3 1 base w a c n xs
theorem LitRow.kept {base n : Nat} {xs : List Value} {v : Value} {w w' : World} (h : LitRow base n xs v w) (hb : Below w.heap.size w w') : LitRow base n xs v w' := let ⟨g, a, c, h1, h2, h3, h4⟩ := h; ⟨g, a, c, h1, h2, h3.below hb, h4.kept hb⟩
section
variable (B : Nat) (a : Option Addr) (ss : List ByteArray) (c : Nat) (s : ByteArray) (errs letters : Int) (L : List UInt8) (SS : List (List UInt8)) (hL : s.data.toList = L) (hSS : ss.map (fun x => x.data.toList) = SS) (hs : s.size ≤ 40) (hle : letters ≤ 10) (hsz : ∀ x ∈ ss, x.size ≤ 1000) (hlen : ss.length ≤ 1000) (hab : ∀ ad, a = some ad → ad.block < B) (hnone : a = none → c = 0)
include hL hSS hs hle hsz hlen hab hnone
set_option maxRecDepth 100000 in
set_option maxHeartbeats 4000000 in
theorem add_any : ∀ (m : Nat) (text : List Int) (at0 : Option Addr) (ct : Nat) (r : Nat → Int) (vs : List Value) (rows : List (List Int)) (w : World), (text.length : Int) + (m : Int) = letters → RowOk r → B + 4 ≤ w.heap.size → EnvA w B a ss.length c s errs letters → StrsAt w a ss →
    OwnL 3 1 (B + 4) w at0 ct text.length (text.map (Value.int .i64)) → OutAt (B + 4) (B + 2) w vs rows → ApartV (Value.slice at0 text.length ct).ownBlock vs → rows.length + (addF L errs SS m text r).length ≤ 1000000000000 →
    Calls Try.prog 75 #[.slice at0 text.length ct, .agg (rowA r), .pointer (some ⟨B, 0, none⟩), .pointer (some ⟨B + 1, 0, none⟩), .pointer (some ⟨B + 2, 0, none⟩), .pointer (some ⟨B + 3, 0, none⟩)] w fun e w' =>
      e = .returned (.tuple #[]) ∧ Below B w w' ∧ KeepT (B + 4) (B + 2) (Value.slice at0 text.length ct).ownBlock w w' ∧ OwnL 3 1 (B + 4) w' at0 ct text.length (text.map (Value.int .i64)) ∧ ∃ us, OutAt (B + 4) (B + 2) w' (vs ++ us) (rows ++ addF L errs SS m text r) ∧ ∀ v ∈ us, ∀ g, v.ownBlock = some g → w.heap.size ≤ g := by
  intro m
  induction m with
  | zero =>
    intro text at0 ct r vs rows w hm hr hB hE hx hT hO hA hcp
    have hop := fun w => hopeless_any a ss.length c s errs w r hr hs
    rw [hL] at hop
    obtain ⟨q, hq⟩ : ∃ q, hopeF L errs r = q := ⟨_, rfl⟩
    rw [hq] at hop
    have hadd : addF L errs SS 0 text r = if q = true then [] else if r L.length ≤ errs then [text] else [] := by rw [addF, hq]
    have Hadd := Lib.hid hadd
    have Hcp := Lib.hid hcp
    clear hcp
    have hLs : L.length = s.size := by rw [← hL]; simp
    have HLs := Lib.hid hLs
    have Hr := Lib.hid hr
    obtain ⟨n, hn⟩ : ∃ n, text.length = n := ⟨_, rfl⟩
    rw [hn] at hm hT hA ⊢
    have Hn := Lib.hid hn
    clear hn hadd hL hSS hr hq hLs
    go_enter Try.func75, Try.ntmps75
    go_upto_region 1 with fail
    obtain ⟨X, hX⟩ : ∃ z : World, z = w.alloc (.cells (rowA r) 121) := ⟨_, rfl⟩
    have hb0 : Below w.heap.size w X := by rw [hX]; (repeat (first | exact Below.refl _ _ | refine Below.alloc ?_ (by first | omega | (simp; done) | (simp; omega)) _ | refine Below.drew ?_ | refine Below.setCell ?_ (by first | omega | (simp; done) | (simp; omega)) _ | refine Below.trans ?_ (Below.mono (by assumption) (by first | omega | (simp; done) | (simp; omega)))))
    have R0 : Cells X w.heap.size (rowA r) 121 := by rw [hX]; exact Cells.new _ _ _
    rw [← hX]
    clear hX
    have k0 := KeepT.of_below (base := B + 4) (Bo := B + 2) (tb := (Value.slice at0 n ct).ownBlock) hb0
    have htb : ∀ g, (Value.slice at0 n ct).ownBlock = some g → B + 4 ≤ g := fun g e => (OwnL.block_ge hT e).1
    have E0 := hE.keep k0 htb
    have p0 := E0.t.cell 0
    have p1 := E0.t.cell 1
    have p2 := E0.t.cell 2
    simp at p0 p1 p2
    have lt0 := E0.t.lt
    go_step
    go_step
    go_step
    go_step
    go_step
    refine wp_load_row 121 (.tmp 7) rfl w.heap.size rfl 121 _ (0, 0) _ R0 Try.underlying121 rfl (by rw [rowA_size]; kernel_rfl) ?_
    have hfin : ∀ w1, Below X.heap.size X w1 → Below w.heap.size w w1 := fun w1 h => hb0.trans (h.mono hb0.size)
    cases q
    · go_upto_region 2 with (go_at_call 76; refine (hop _).mono ?_; rintro _ w1 ⟨rfl, hb1⟩)
      have hb := hfin w1 hb1
      have R1 := R0.below hb1
      clear hfin E0 k0 p0 p1 p2 lt0 hb0 R0 hop hb1
      have k1 := KeepT.of_below (base := B + 4) (Bo := B + 2) (tb := (Value.slice at0 n ct).ownBlock) hb
      have E1 := hE.keep k1 htb
      have T1 := hT.kept hb
      have O1 := hO.kept hb
      have hB1 : B + 4 ≤ w1.heap.size := Nat.le_trans hB hb.size
      have p1 := E1.t.cell 1
      have p2 := E1.t.cell 2
      have p3 := E1.l.cell 0
      simp at p1 p2 p3
      have lt0 := E1.l.lt
      have ltB : B < w1.heap.size := E1.t.lt
      have hne : ((n : Int) == letters) = true := by rw [beq_iff_eq]; omega
      have q0 := R1.cell s.size
      rw [rowA_get _ (by omega)] at q0
      have lr1 := R1.lt
      have iz0 : (0 : Int) ≤ (s.size : Int) := by omega
      have iz1 : (s.size : Int) < 41 := by omega
      obtain ⟨v, hv⟩ : ∃ v, r s.size = v := ⟨_, rfl⟩
      rw [hv] at q0
      have Hv := Lib.hid (show r L.length = v by rw [HLs.out]; exact hv)
      clear hv
      go_upto_region 3 with fail
      by_cases hle2 : v ≤ errs
      · have hd : decide (v ≤ errs) = true := by simpa using hle2
        (refine wp_region_ext 8 (by kernel_rfl) (by kernel_rfl) ?_; simp only [List.take_succ_cons, List.take_zero, List.drop_succ_cons, List.drop_zero]; (repeat (go_big_quiet_step ((fail)))); refine wpQuiet_nil ?_; rintro _ ⟨ex, rfl⟩; have hex := ex.below; have hexz := ex.size; (try simp at hexz); (try (have hy0 : w.heap.size < ex.to.heap.size := by omega)); (try (have hy1 : w.heap.size + 1 < ex.to.heap.size := by omega)); (try (have hy2 : w.heap.size + 2 < ex.to.heap.size := by omega)))
        obtain ⟨W, hW⟩ : ∃ z : World, z = ex.to := ⟨_, rfl⟩
        rw [← hW] at hex ⊢
        have hbW : Below w.heap.size w W := hb.trans (hex.mono hb.size)
        have T2 := T1.kept hex
        have O2 := O1.kept hex
        clear hW hexz hex T1 O1 E1 q0 p1 p2 p3 lt0 lr1 ltB hb k1
        obtain ⟨ao, co, cO, oO⟩ := O2.cell
        have qo := cO.cell 0
        simp at qo
        have lo := cO.lt
        have hcl := fun W' (h : Below W.heap.size W W') => clone_f at0 text ct W' (T2.kept h).ints.1 (fun e => by
          subst e
          have := T2.isnil
          exact ⟨List.eq_nil_of_length_eq_zero (Hn.out.trans this.1), this.2⟩) (by rw [Hn.out]; omega)
        rw [Hn.out] at hcl
        have hBW : B + 4 ≤ W.heap.size := Nat.le_trans hB hbW.size
        go_upto_region 4 with fail
        (refine wp_region_seq 4 [] [4, 5] 55 [true, true, false, false] [OwnV 3 1 W.heap.size n (text.map (Value.int .i64)), LitRow W.heap.size n (text.map (Value.int .i64))] (by kernel_rfl) (by kernel_rfl) rfl (mono_cons (fun v w w' h hb => h.kept hb) (mono_cons (fun v w w' h hb => h.kept hb) mono_nil)) ?_; simp only [pickOps, List.filterMap_cons, List.filterMap_nil, List.getElem?_toArray, List.getElem?_cons_succ, List.getElem?_cons_zero]; (repeat (refine wpFl_step _ rfl (fun w => (by go_simp; rfl)) ?_)); refine wpFl_nil ?_; simp only [maskOps, dummy, Act.put, List.setIfInBounds_toArray, List.set_cons_zero, List.set_cons_succ, List.take_succ_cons, List.take_zero, List.drop_succ_cons, List.drop_zero]; (repeat (refine wpQB_step (fun K hK => ?_); go_simp; first | (refine hK _ ?_; clear hK K) | (apply Exists.intro; refine ⟨fun ex => ?_, hK _ ?_⟩; (fail); clear hK K))); refine wpQB_nil ?_; simp only [relObl2, under, relEnd, and_true, List.nil_append, List.cons_append])
        refine ⟨⟨fun e => ?f1, fun e v1 h1 => ?f2⟩, fun e v1 h1 v2 h2 => ?fin⟩
        case f1 =>
          go_simp
          go_at_call 46
          exact (hcl _ e.below).mono (by rintro _ w5 ⟨a', c', rfl, h1, h2⟩; exact ⟨h2, a', c', rfl, h1.base_le e.size⟩)
        case f2 =>
          obtain ⟨a', c', rfl, h3⟩ := h1 (by kernel_rfl)
          simp only [Act.put, List.setIfInBounds_toArray, List.set_cons_zero, List.set_cons_succ]
          go_simp
          exact ⟨(Below.refl _ _).alloc (Nat.le_refl _) _, e.to.heap.size, a', c', rfl, e.size, Cells.new _ _ _, h3.alloc _⟩
        case fin =>
          obtain ⟨gg, a', c', rfl, hg1, hgg, hrow⟩ := h2
          simp only [Act.put, List.setIfInBounds_toArray, List.set_cons_zero, List.set_cons_succ]
          have heb := e.below
          have hez := e.size
          have cO5 := cO.below heb
          have oO5 := oO.kept heb
          have T5 := T2.kept heb
          have rO5 := O2.rows.kept heb
          have hb5 := hbW.trans (heb.mono hbW.size)
          obtain ⟨w5, hw5⟩ : ∃ x : World, x = e.to := ⟨_, rfl⟩
          rw [← hw5] at hgg hrow cO5 oO5 T5 rO5 hb5 hez ⊢
          clear hw5 heb qo
          have hvl : vs.length ≤ 1000000000000 := by have h1 := rO5.1; have h2 := Hcp.out; omega
          refine wpList_app_g elIntsF rfl _ _ rfl (B + 4) ao vs.length co vs rfl oO5 (some ⟨gg, 0, none⟩) 1 1 [.slice a' n c'] rfl (fun h => by cases h) rfl hgg.src (fun u hu => by simp at hu; subst hu; rfl) (by unfold maxLen; omega) (by omega) (by omega) ?_
          intro a6 c6 w6 hown6 hb6 hg6
          have hlen1 : (vs ++ [Value.slice a' n c']).length = vs.length + 1 := by simp
          have cO6 := cO5.grown hg6 (Cells.not_row cO5 (by decide) oO5)
          have T6 := T5.grown hg6 (OwnL.apart (by decide) T5 oO5)
          have hz6 := hg6.size
          have k6 : KeepT (B + 4) (B + 2) (Value.slice at0 n ct).ownBlock w5 w6 := ⟨hg6.size, fun b h1 h2 h3 h4 => hg6.block b h1 fun e => by
            have h5 := (OwnL.block_ge oO5 e.symm).1
            obtain ⟨cs, h6⟩ := OwnL.cellsAt oO5 b e.symm
            rcases h4 with h4 | h4
            · omega
            · exact h4 _ _ h6⟩
          have rO6 : RowsV (B + 4) w6 vs rows := RowsV.mono rO5 fun v hv row hr => by
            obtain ⟨a1, c1, h1, h2⟩ := hr
            exact ⟨a1, c1, h1, h2.grown hg6 (OwnL.apart (by decide) h2 oO5)⟩
          have row6 : RowV (B + 4) w6 (.slice a' n c') text := ⟨a', c', by rw [Hn.out], by rw [Hn.out]; exact (hrow.grown hg6 (OwnL.apart (by decide) hrow oO5)).base_le hBW⟩
          have hnew : ∀ g, (Value.slice a' n c').ownBlock = some g → W.heap.size ≤ g := fun g e => (OwnL.block_ge hrow e).1
          have b6 : Below B w w6 := (hb5.mono (by omega)).trans (hb6.mono (by omega))
          have lo6 := cO6.lt
          have fo6 := cO6.frozen 0
          have qo6 := cO6.cell 0
          simp at qo6
          clear hg6 hb6 cO5 oO5 T5 rO5 hrow hgg
          obtain ⟨X7, hX7⟩ : ∃ z : World, z = w6.setCell ⟨B + 2, 0, none⟩ (.slice a6 (vs.length + 1) c6) := ⟨_, rfl⟩
          have cO7 : Cells X7 (B + 2) #[.slice a6 (vs.length + 1) c6] 61 := by rw [hX7]; exact cO6.set 0 _
          have bl7 : ∀ b, b ≠ B + 2 → X7.heap[b]? = w6.heap[b]? := fun b h => by rw [hX7]; exact Below.heap_setCell _ _ _ _ h
          have z7 : X7.heap.size = w6.heap.size := by rw [hX7]; simp [World.setCell]
          have b7 : Below B w X7 := by rw [hX7]; exact b6.setCell (p := ⟨B + 2, 0, none⟩) (by show B ≤ B + 2; omega) _
          go_wp2_with fail
          rw [← hX7]
          clear hX7
          refine bodyPost_ret (v := .tuple #[]) ?_ rfl ?_
          · exact results_none rfl _ _ _
          have k7 : KeepT (B + 4) (B + 2) (Value.slice at0 n ct).ownBlock w6 X7 := ⟨by omega, fun b _ h2 _ _ => bl7 b h2⟩
          have ow7 : ∀ {E : TypeId} {a1 : Option Addr} {c1 n1 : Nat} {xs1 : List Value}, OwnL E 1 (B + 4) w6 a1 c1 n1 xs1 → OwnL E 1 (B + 4) X7 a1 c1 n1 xs1 := fun h => OwnL.moved h (by omega) bl7 fun e => by have := (OwnL.block_ge h e.symm).1; omega
          refine ⟨rfl, b7, ((KeepT.of_below hb5).trans k6 (.inl rfl)).trans k7 (.inl rfl), ow7 T6, [.slice a' n c'], ⟨⟨a6, c6, by rw [hlen1]; exact cO7, by rw [hlen1]; exact ow7 hown6⟩, ?_⟩, fun v hv g e => ?_⟩
          · rw [Hadd.out, if_neg (by simp), if_pos (by rw [Hv.out]; exact hle2)]
            refine RowsV.append (rO6.mono fun v _ row hr => ?_) ⟨rfl, fun k hk v hv => ?_⟩
            · obtain ⟨a1, c1, h1, h2⟩ := hr
              exact ⟨a1, c1, h1, ow7 h2⟩
            · obtain rfl : k = 0 := by simpa using hk
              have : v = .slice a' n c' := by simpa using hv.symm
              subst this
              obtain ⟨a1, c1, h1, h2⟩ := row6
              exact ⟨a1, c1, h1, ow7 h2⟩
          · have : v = .slice a' n c' := by simpa using hv
            subst this
            exact Nat.le_trans hbW.size (hnew g e)
      · have hd : decide (v ≤ errs) = false := by simpa using hle2
        (refine wp_region_ext 8 (by kernel_rfl) (by kernel_rfl) ?_; simp only [List.take_succ_cons, List.take_zero, List.drop_succ_cons, List.drop_zero]; (repeat (go_big_quiet_step ((fail)))); refine wpQuiet_nil ?_; rintro _ ⟨ex, rfl⟩; have hex := ex.below; have hexz := ex.size; (try simp at hexz); (try (have hy0 : w.heap.size < ex.to.heap.size := by omega)); (try (have hy1 : w.heap.size + 1 < ex.to.heap.size := by omega)); (try (have hy2 : w.heap.size + 2 < ex.to.heap.size := by omega)))
        go_wp2
        refine bodyPost_ret (v := .tuple #[]) ?_ rfl ?_
        · exact results_none rfl _ _ _
        have hbf : Below w.heap.size w ex.to := hb.trans (hex.mono hb.size)
        exact ⟨rfl, hbf.mono (by omega), KeepT.of_below hbf, hT.kept hbf, [], by rw [Hadd.out, if_neg (by simp), if_neg (by rw [Hv.out]; omega), List.append_nil, List.append_nil]; exact hO.kept hbf, fun v hv => by cases hv⟩
    · go_wp2_with (go_at_call 76; refine (hop _).mono ?_; rintro _ w1 ⟨rfl, hb1⟩)
      refine bodyPost_ret (v := .tuple #[]) ?_ rfl ?_
      · exact results_none rfl _ _ _
      have hb := hfin w1 hb1
      exact ⟨rfl, hb.mono (by omega), KeepT.of_below hb, hT.kept hb, [], by rw [Hadd.out, if_pos trivial, List.append_nil, List.append_nil]; exact hO.kept hb, fun v hv => by cases hv⟩
  | succ m ih =>
    intro text at0 ct r vs rows w hm hr hB hE hx hT hO hA hcp
    have hop := fun w => hopeless_any a ss.length c s errs w r hr hs
    rw [hL] at hop
    obtain ⟨q, hq⟩ : ∃ q, hopeF L errs r = q := ⟨_, rfl⟩
    rw [hq] at hop
    have hadd : addF L errs SS (m + 1) text r = if q = true then [] else (List.range SS.length).flatMap fun (i : Nat) => addF L errs SS m (text ++ [(i : Int)]) (aftF L (sgsOf text (SS.getD i [])) r (fun _ => 0) 32) := by rw [addF, hq]
    have Hadd := Lib.hid hadd
    have Hcp := Lib.hid hcp
    clear hcp
    have Hih := Lib.hid ih
    have HL := Lib.hid hL
    have HSS := Lib.hid hSS
    have Hr := Lib.hid hr
    obtain ⟨n, hn⟩ : ∃ n, text.length = n := ⟨_, rfl⟩
    rw [hn] at hm hT hA ⊢
    have Hn := Lib.hid hn
    clear hn hadd ih hL hSS hr hq
    go_enter Try.func75, Try.ntmps75
    go_upto_region 1 with fail
    obtain ⟨X, hX⟩ : ∃ z : World, z = w.alloc (.cells (rowA r) 121) := ⟨_, rfl⟩
    have hb0 : Below w.heap.size w X := by rw [hX]; (repeat (first | exact Below.refl _ _ | refine Below.alloc ?_ (by first | omega | (simp; done) | (simp; omega)) _ | refine Below.drew ?_ | refine Below.setCell ?_ (by first | omega | (simp; done) | (simp; omega)) _ | refine Below.trans ?_ (Below.mono (by assumption) (by first | omega | (simp; done) | (simp; omega)))))
    have R0 : Cells X w.heap.size (rowA r) 121 := by rw [hX]; exact Cells.new _ _ _
    rw [← hX]
    clear hX
    have k0 := KeepT.of_below (base := B + 4) (Bo := B + 2) (tb := (Value.slice at0 n ct).ownBlock) hb0
    have htb : ∀ g, (Value.slice at0 n ct).ownBlock = some g → B + 4 ≤ g := fun g e => (OwnL.block_ge hT e).1
    have E0 := hE.keep k0 htb
    have T0 := hT.kept hb0
    have O0 := hO.kept hb0
    have x0 := hx.keep k0 hab (by omega) (by omega) htb
    have p0 := E0.t.cell 0
    have p1 := E0.t.cell 1
    have p2 := E0.t.cell 2
    have p3 := E0.l.cell 0
    simp at p0 p1 p2 p3
    have lt0 := E0.l.lt
    go_step
    go_step
    go_step
    go_step
    go_step
    refine wp_load_row 121 (.tmp 7) rfl w.heap.size rfl 121 _ (0, 0) _ R0 Try.underlying121 rfl (by rw [rowA_size]; kernel_rfl) ?_
    have hfin : ∀ w1, Below X.heap.size X w1 → Below w.heap.size w w1 := fun w1 h => hb0.trans (h.mono hb0.size)
    cases q
    · go_upto_region 2 with (go_at_call 76; refine (hop _).mono ?_; rintro _ w1 ⟨rfl, hb1⟩)
      have hb := hfin w1 hb1
      have R1 := R0.below hb1
      clear hfin E0 T0 O0 x0 k0 p0 p1 p2 p3 lt0 hb0 R0 hop hb1
      have k1 := KeepT.of_below (base := B + 4) (Bo := B + 2) (tb := (Value.slice at0 n ct).ownBlock) hb
      have E1 := hE.keep k1 htb
      have T1 := hT.kept hb
      have O1 := hO.kept hb
      have x1 := hx.keep k1 hab (by omega) (by omega) htb
      have hB1 : B + 4 ≤ w1.heap.size := Nat.le_trans hB hb.size
      have hwr : some w.heap.size ≠ (Value.slice at0 n ct).ownBlock := Cells.not_row R1 (by decide) T1
      clear hE hT hO hx k1
      have p0 := E1.t.cell 0
      have p3 := E1.l.cell 0
      simp at p0 p3
      have lt0 := E1.l.lt
      have hne : ((n : Int) == letters) = false := by rw [beq_eq_false_iff_ne]; omega
      go_upto_region 6 with fail
      clear p0 p3 lt0 hne
      go_loopw [34] (fun i X' => ∃ (k : Nat) (us : List Value), k ≤ ss.length ∧ i = .int .i64 k ∧ Stt B (Value.slice at0 n ct).ownBlock w1 ct n at0 (text.map (Value.int .i64)) (vs ++ us) (rows ++ (List.range k).flatMap fun (i : Nat) => addF L errs SS m (text ++ [(i : Int)]) (aftF L (sgsOf text (SS.getD i [])) r (fun _ => 0) 32)) X' ∧ ∀ v ∈ us, ∀ g, v.ownBlock = some g → w1.heap.size ≤ g) (fun u _ => ss.length - (intOf u).toNat)
      case atStart => exact ⟨0, [], by omega, rfl, ⟨KeepT.of_below (Below.refl _ _), Below.refl _ _, T1, by simpa using O1⟩, fun v hv => by cases hv⟩
      case round =>
        obtain ⟨k, us, hk, rfl, St, hus⟩ := hrel
        rename World => X
        by_cases hlt : k < ss.length
        · have hkI : (k : Int) < (ss.length : Int) := by omega
          have E2 := E1.keep St.keep htb
          have x2 := x1.keep St.keep hab (by omega) (by omega) htb
          have R2 := St.keep.cells R1 (by decide) (by omega) hwr
          obtain ⟨bs, os, rfl, lbs, q0⟩ := x2 k hlt
          obtain ⟨x, hx⟩ : ∃ x, ss[k] = x := ⟨_, rfl⟩
          have hxs : x.size ≤ 1000 := hx ▸ hsz _ (List.getElem_mem hlt)
          rw [hx] at q0
          have hxd : SS.getD k [] = x.data.toList := by rw [← HSS.out, List.getD_eq_getElem?_getD, List.getElem?_map, List.getElem?_eq_getElem hlt, hx]; rfl
          have Hxd := Lib.hid hxd
          clear hx hxd
          obtain ⟨z, hz, hzs, hz0, hz1⟩ : ∃ z : ByteArray, z.data.toList = sgsOf text x.data.toList ∧ z.size ≤ 1000000 ∧ (n = 0 → z = x) ∧ (n ≠ 0 → z = ⟨#[32]⟩ ++ x) := by
            by_cases h0 : n = 0
            · refine ⟨x, ?_, by omega, fun _ => rfl, fun h => absurd h0 h⟩
              rw [sgsOf, if_pos (List.eq_nil_of_length_eq_zero (Hn.out.trans h0))]
            · refine ⟨⟨#[32]⟩ ++ x, ?_, by rw [ByteArray.size_append]; show 1 + x.size ≤ _; omega, fun h => absurd h h0, fun _ => rfl⟩
              rw [sgsOf, if_neg (fun e => h0 (by rw [← Hn.out, e]; rfl))]
              simp
          have Hz := Lib.hid hz
          have Hz0 := Lib.hid hz0
          have Hz1 := Lib.hid hz1
          clear hz hz0 hz1
          go_upto_if 41 with fail
          go_cut [9] (fun v wx => v = .string z ∧ wx = X)
          case first =>
            by_cases h0 : n = 0
            · have hzx := Hz0.out h0
              subst hzx
              have hn0 : ¬ (0 : Int) < (n : Int) := by omega
              clear h0
              go_wp2_with fail
              go_meet
              case rel => exact ⟨rfl, rfl⟩
            · have hn0 : (0 : Int) < (n : Int) := by omega
              have hzx := Hz1.out h0
              go_wp2_with fail
              go_meet
              case rel => exact ⟨by rw [hzx], rfl⟩
          case rest =>
            obtain ⟨rfl, hwc⟩ := hcut
            subst hwc
            clear Hz0 Hz1 lbs q0
            go_upto_region 10 with fail
            have hBX : B + 4 ≤ wc.heap.size := Nat.le_trans hB1 St.keep.size
            have lim : ∀ w', KeepT (B + 4) (B + 2) (Value.slice at0 n ct).ownBlock wc w' → w'.cell? ⟨B + 3, 0, none⟩ = some (.func (.func 75) #[] #[.pointer (some ⟨B, 0, none⟩), .pointer (some ⟨B + 1, 0, none⟩), .pointer (some ⟨B + 2, 0, none⟩), .pointer (some ⟨B + 3, 0, none⟩)]) ∧ w'.cell? ⟨B, 0, none⟩ = some (.slice (some ⟨bs, os, none⟩) ss.length c) ∧ w'.cell? ⟨B, 1, none⟩ = some (.string s) ∧ w'.cell? ⟨B, 2, none⟩ = some (.int .i64 errs) ∧ w'.rangeAt w.heap.size 0 (rowA r).toList := fun w' hk => by
              have E3 := E2.keep hk htb
              have R3 := hk.cells R2 (by decide) (by omega) hwr
              refine ⟨by rw [E3.f.cell]; rfl, by rw [E3.t.cell]; rfl, by rw [E3.t.cell]; rfl, by rw [E3.t.cell]; rfl, ?_⟩
              have := World.rangeAt_of_block R3 0 41
              rwa [show (rowA r).extract 0 (0 + 41) = rowA r by rw [Nat.zero_add, ← rowA_size r, Array.extract_size]] at this
            have u103 : Try.prog.underlying 121 = some (.array 41 3) := Try.underlying121
            have i103 : (Try.prog.info? 121).map (·.size) = some (rowA r).toList.length := by rw [show (rowA r).toList.length = 41 by simp [rowA]]; kernel_rfl
            have haft := fun W => after_any (some ⟨bs, os, none⟩) ss.length c s errs W r Hr.out z hzs
            rw [HL.out, Hz.out] at haft
            obtain ⟨r1, hr1⟩ : ∃ r1, aftF L (sgsOf text x.data.toList) r (fun _ => 0) 32 = r1 := ⟨_, rfl⟩
            rw [hr1] at haft
            have Hr1 := Lib.hid hr1
            clear hr1
            have hbW : Below wc.heap.size wc (wc.alloc (.cells #[.int .i64 (k : Int)] 3)).drew := by (repeat (first | exact Below.refl _ _ | refine Below.alloc ?_ (by first | omega | (simp; done) | (simp; omega)) _ | refine Below.drew ?_ | refine Below.setCell ?_ (by first | omega | (simp; done) | (simp; omega)) _ | refine Below.trans ?_ (Below.mono (by assumption) (by first | omega | (simp; done) | (simp; omega)))))
            have hkW := KeepT.of_below (base := B + 4) (Bo := B + 2) (tb := (Value.slice at0 n ct).ownBlock) hbW
            have hn10 : n ≤ 1000 := by omega
            have hap : ApartV (Value.slice at0 n ct).ownBlock (vs ++ us) := fun v hv g e1 e2 => by
              rcases List.mem_append.1 hv with hv | hv
              · exact hA v hv g e1 e2
              · have h1 := hus v hv g e1
                have h2 := (OwnL.block_ge T1 e2.symm).2
                omega
            have hob : ∀ (a1 : Option Addr) (c1 c2 n1 n2 : Nat), (Value.slice a1 n1 c1).ownBlock = (Value.slice a1 n2 c2).ownBlock := fun a1 _ _ _ _ => by cases a1 <;> rfl
            have htb1 : ∀ (a1 : Option Addr) (c1 : Nat), ((a1 = at0 ∧ c1 = ct) ∨ ∀ g, (Value.slice a1 (n + 1) c1).ownBlock = some g → wc.heap.size + 1 ≤ g) → ((Value.slice a1 (n + 1) c1).ownBlock = (Value.slice at0 n ct).ownBlock ∨ ∀ g, (Value.slice a1 (n + 1) c1).ownBlock = some g → wc.heap.size ≤ g) := fun a1 c1 h => by
              rcases h with ⟨rfl, rfl⟩ | h
              · exact .inl (hob _ _ _ _ _)
              · exact .inr fun g e => by have := h g e; omega
            have hlow : ∀ v ∈ vs ++ us, ∀ g, v.ownBlock = some g → g < wc.heap.size := fun v hv g e => by
              obtain ⟨i, hi⟩ := List.getElem?_of_mem hv
              obtain ⟨a', c', hv', ho⟩ := St.out.rows.2 i (by have h1 := (List.getElem?_eq_some_iff.1 hi).1; rw [← St.out.rows.1]; exact h1) v hi
              exact (OwnL.block_ge ho (by rw [← hv']; exact e)).2
            have hapc : ∀ (u : Unit) (a1 : Option Addr) (c1 : Nat), ((a1 = at0 ∧ c1 = ct) ∨ ∀ g, (Value.slice a1 (n + 1) c1).ownBlock = some g → wc.heap.size + 1 ≤ g) → ApartV (Value.slice a1 (n + 1) c1).ownBlock (vs ++ us) := fun _ a1 c1 h => by
              rcases h with ⟨rfl, rfl⟩ | h
              · rw [hob _ _ c1 _ n]; exact hap
              · intro v hv g e1 e2
                have h1 := hlow v hv g e1
                have h2 := h g e2.symm
                omega
            have hcp1 : (rows ++ (List.range k).flatMap fun (i : Nat) => addF L errs SS m (text ++ [(i : Int)]) (aftF L (sgsOf text (SS.getD i [])) r (fun _ => 0) 32)).length + (addF L errs SS m (text ++ [(k : Int)]) r1).length ≤ 1000000000000 := by
              have h1 := Hcp.out
              rw [Hadd.out, if_neg (by simp)] at h1
              have h2 := flat_len (fun (i : Nat) => addF L errs SS m (text ++ [(i : Int)]) (aftF L (sgsOf text (SS.getD i [])) r (fun _ => 0) 32)) (show k < SS.length by rw [← HSS.out]; simpa using hlt)
              have h3 : addF L errs SS m (text ++ [(k : Int)]) (aftF L (sgsOf text (SS.getD k [])) r (fun _ => 0) 32) = addF L errs SS m (text ++ [(k : Int)]) r1 := by rw [Hxd.out, Hr1.out]
              rw [List.length_append]
              simp only [h3] at h2
              omega
            have hcall : ∀ (a1 : Option Addr) (c1 : Nat) (w4 : World), B + 4 ≤ w4.heap.size → EnvA w4 B (some ⟨bs, os, none⟩) ss.length c s errs letters → StrsAt w4 (some ⟨bs, os, none⟩) ss → OwnL 3 1 (B + 4) w4 a1 c1 (n + 1) (text.map (Value.int .i64) ++ [.int .i64 (k : Int)]) →
                OutAt (B + 4) (B + 2) w4 (vs ++ us) (rows ++ (List.range k).flatMap fun (i : Nat) => addF L errs SS m (text ++ [(i : Int)]) (aftF L (sgsOf text (SS.getD i [])) r (fun _ => 0) 32)) → ApartV (Value.slice a1 (n + 1) c1).ownBlock (vs ++ us) →
                Calls Try.prog 75 #[.slice a1 (n + 1) c1, .agg (rowA r1), .pointer (some ⟨B, 0, none⟩), .pointer (some ⟨B + 1, 0, none⟩), .pointer (some ⟨B + 2, 0, none⟩), .pointer (some ⟨B + 3, 0, none⟩)] w4 fun e w' =>
                  e = .returned (.tuple #[]) ∧ Below B w4 w' ∧ KeepT (B + 4) (B + 2) (Value.slice a1 (n + 1) c1).ownBlock w4 w' ∧ OwnL 3 1 (B + 4) w' a1 c1 (n + 1) (text.map (Value.int .i64) ++ [.int .i64 (k : Int)]) ∧ ∃ us2, OutAt (B + 4) (B + 2) w' ((vs ++ us) ++ us2) ((rows ++ (List.range k).flatMap fun (i : Nat) => addF L errs SS m (text ++ [(i : Int)]) (aftF L (sgsOf text (SS.getD i [])) r (fun _ => 0) 32)) ++ addF L errs SS m (text ++ [(k : Int)]) r1) ∧ ∀ v ∈ us2, ∀ g, v.ownBlock = some g → w4.heap.size ≤ g := fun a1 c1 w4 h1 h2 h3 h4 h5 h6 => by
              have hl : (text ++ [(k : Int)]).length = n + 1 := by rw [List.length_append, Hn.out]; rfl
              have hmp : (text ++ [(k : Int)]).map (Value.int .i64) = text.map (Value.int .i64) ++ [.int .i64 (k : Int)] := by rw [List.map_append]; rfl
              have := Hih.out (text ++ [(k : Int)]) a1 c1 r1 (vs ++ us) _ w4 (by rw [hl]; omega) (by rw [← Hr1.out]; exact aftF_ok L _ _ _ _ Hr.out zero_ok) h1 h2 h3 (by rw [hl, hmp]; exact h4) h5 (by rw [hl]; exact h6) hcp1
              rw [hl, hmp] at this
              exact this
            go_region_held3 (fun w' => w'.cell? ⟨B + 3, 0, none⟩ = some (.func (.func 75) #[] #[.pointer (some ⟨B, 0, none⟩), .pointer (some ⟨B + 1, 0, none⟩), .pointer (some ⟨B + 2, 0, none⟩), .pointer (some ⟨B + 3, 0, none⟩)]) ∧ w'.cell? ⟨B, 0, none⟩ = some (.slice (some ⟨bs, os, none⟩) ss.length c) ∧ w'.cell? ⟨B, 1, none⟩ = some (.string s) ∧ w'.cell? ⟨B, 2, none⟩ = some (.int .i64 errs) ∧ w'.rangeAt w.heap.size 0 (rowA r).toList) (first | (refine lim _ ?_; assumption) | (refine lim _ (KeepT.of_below ?_); (repeat (first | exact Below.refl _ _ | refine Below.alloc ?_ (by first | omega | (simp; done) | (simp; omega)) _ | refine Below.drew ?_ | refine Below.setCell ?_ (by first | omega | (simp; done) | (simp; omega)) _ | refine Below.trans ?_ (Below.mono (by assumption) (by first | omega | (simp; done) | (simp; omega)))))))
              (first
                | (refine step_text rfl (.tmp 45) (.tmp 47) rfl (B + 4) at0 n ct _ rfl (St.text.kept hbW) hn10 ⟨wc.heap.size, 0, none⟩ (.int .i64 (k : Int)) rfl ((Cells.new wc #[.int .i64 (k : Int)] 3).cell 0) rfl (Nat.le_trans hBX hbW.size) (wc.heap.size + 1) (by simp) ?_; intro a1 c1 w3 hT3 hTo3 hg3 hd3; have hk3 := hkW.trans (KeepT.of_grown hg3) (.inl rfl); have St3 := Stt.grown (St.kept hbW (by omega)) rfl hap hg3 hTo3 (Nat.le_trans (by omega) hbW.size); have hz3 := hg3.size)
                | (go_at_call 77; refine (haft _).mono ?_; rintro _ w4 ⟨rfl, hb4⟩; have hk4 := hk3.trans (KeepT.of_below (tb := (Value.slice at0 n ct).ownBlock) hb4) (.inl rfl); have St4 := St3.kept hb4 (by simp at hz3; omega); have hT4 := hT3.kept hb4; have hz4 := hb4.size; have hs4 : B + 4 ≤ w4.heap.size := Nat.le_trans hBX hk4.size; have hE4 := E1.keep St4.keep htb; have hx4 := x1.keep St4.keep hab (Nat.le_add_right _ _) (Nat.le_add_right _ _) htb; have hap4 := hapc () a1 c1 hd3; have htb4 := htb1 a1 c1 hd3)
                | (go_at_call 75; refine (hcall a1 c1 w4 hs4 hE4 hx4 hT4 St4.out hap4).mono ?_; rintro _ w5 ⟨rfl, hb5, hk5, hT5, us2, hO5, hus2⟩; have hk6 := hk4.trans hk5 htb4))

            have hge1 : w1.heap.size ≤ wc.heap.size := St.keep.size
            have hge4 : w1.heap.size ≤ w4.heap.size := Nat.le_trans hge1 hk4.size
            have hT6 : OwnL 3 1 (B + 4) w5 at0 ct n (text.map (Value.int .i64)) := by
              rcases hd3 with ⟨rfl, rfl⟩ | hd3
              · exact OwnL.prefix1 hT5
              · refine hk5.own St4.text (by decide) (by omega) fun g e1 e2 => ?_
                have h1 := (OwnL.block_ge St.text e1).2
                have h2 := hd3 g e2.symm
                omega
            have hk7 : KeepT (B + 4) (B + 2) (Value.slice at0 n ct).ownBlock w1 w5 := St4.keep.trans hk5 (by
              rcases htb4 with h | h
              · exact .inl h
              · exact .inr fun g e => Nat.le_trans hge1 (h g e))
            have hO6 : OutAt (B + 4) (B + 2) w5 (vs ++ (us ++ us2)) (rows ++ (List.range (k + 1)).flatMap fun (i : Nat) => addF L errs SS m (text ++ [(i : Int)]) (aftF L (sgsOf text (SS.getD i [])) r (fun _ => 0) 32)) := by
              rw [List.range_succ, List.flatMap_append, List.flatMap_singleton, Hxd.out, Hr1.out, ← List.append_assoc, ← List.append_assoc]
              exact hO5
            have hu6 : ∀ v ∈ us ++ us2, ∀ g, v.ownBlock = some g → w1.heap.size ≤ g := fun v hv g e => by
              rcases List.mem_append.1 hv with hv | hv
              · exact hus v hv g e
              · exact Nat.le_trans hge4 (hus2 v hv g e)
            have hb6 := St4.below.trans hb5
            clear hO5 hus2 hk6 hT5 hk5 hb5 htb4 hap4 St4 St hk4
            go_wp2
            go_roundw
            case rel => exact ⟨k + 1, us ++ us2, by omega, by go_num, ⟨hk7, hb6, hT6, hO6⟩, hu6⟩
            case measure => simp [intOf]; omega
        · obtain rfl : k = ss.length := by omega
          go_wp2_with fail
          refine bodyPost_end (v := .tuple #[]) ?_ rfl ?_
          · exact results_none rfl _ _ _
          refine ⟨rfl, (hb.mono (by omega)).trans St.below, ?_, St.text, us, ?_, fun v hv g e => Nat.le_trans hb.size (hus v hv g e)⟩
          · exact KeepT.trans (KeepT.of_below hb) St.keep (.inl rfl)
          · have := St.out
            rw [Hadd.out, if_neg (by simp), ← show ss.length = SS.length by rw [← HSS.out]; simp]
            exact this
    · go_wp2_with (go_at_call 76; refine (hop _).mono ?_; rintro _ w1 ⟨rfl, hb1⟩)
      refine bodyPost_ret (v := .tuple #[]) ?_ rfl ?_
      · exact results_none rfl _ _ _
      have hb := hfin w1 hb1
      exact ⟨rfl, hb.mono (by omega), KeepT.of_below hb, hT.kept hb, [], by rw [Hadd.out, if_pos trivial, List.append_nil, List.append_nil]; exact hO.kept hb, fun v hv => by cases hv⟩
end
end Go.Proofs.Ytnofcpihkglmmaa
