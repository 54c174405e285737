/- pay: ProveSettled -/
import Derived.Test.YtomjlmhnjgohdaaAy
import Derived.Test.YtomjlmhnjgohdaaAk
import Derived.Test.YtomjlmhnjgohdaaFlo
import Derived.Deep.Cut
namespace Go.Proofs.Ytomjlmhnjgohdaa
set_option linter.unusedVariables false
set_option linter.unusedSimpArgs false
set_option linter.unnecessarySimpa false
open Go.RowKit Go.Flow Go.Shelf

/-- A block whose first cells are known. -/
def RowAt (w : World) (g : Nat) (E : TypeId) (xs : List Value) : Prop := ∃ cur : Array Value, Cells w g cur E ∧ ∀ (j : Nat) u, xs[j]? = some u → cur[j]? = some u
section
variable {w w' : World} {g : Nat} {E : TypeId} {xs : List Value}
theorem RowAt.lt (h : RowAt w g E xs) : g < w.heap.size := let ⟨_, h1, _⟩ := h; h1.lt
theorem RowAt.cell (h : RowAt w g E xs) {j : Nat} {u : Value} (hu : xs[j]? = some u) : w.cell? ⟨g, j, none⟩ = some u := let ⟨_, h1, h2⟩ := h; (h1.cell j).trans (h2 j u hu)
theorem RowAt.frozen (h : RowAt w g E xs) (j : Nat) : w.frozen? ⟨g, j, none⟩ = false := let ⟨_, h1, _⟩ := h; h1.frozen j
theorem RowAt.below (h : RowAt w g E xs) (hb : Below w.heap.size w w') : RowAt w' g E xs := let ⟨cur, h1, h2⟩ := h; ⟨cur, h1.below hb, h2⟩
theorem RowAt.base (h : RowAt w g E xs) {B : Nat} (hg : g < B) (hb : Below B w w') : RowAt w' g E xs := let ⟨cur, h1, h2⟩ := h; ⟨cur, (hb.block g hg).trans h1, h2⟩
theorem RowAt.other (h : RowAt w g E xs) {g' : Nat} (hne : g ≠ g') (k : Nat) (v : Value) : RowAt (w.setCell ⟨g', k, none⟩ v) g E xs := let ⟨cur, h1, h2⟩ := h; ⟨cur, h1.other hne k v, h2⟩
theorem RowAt.set (h : RowAt w g E xs) (k : Nat) (v : Value) : RowAt (w.setCell ⟨g, k, none⟩ v) g E (xs.set k v) := by
  obtain ⟨cur, h1, h2⟩ := h
  refine ⟨_, h1.set k v, fun j u hu => ?_⟩
  rw [List.getElem?_set] at hu
  rw [Array.getElem?_setIfInBounds]
  by_cases e : k = j
  · subst e
    rw [if_pos rfl] at hu ⊢
    split at hu
    · rename_i hlt
      have := h2 k _ (List.getElem?_eq_getElem hlt)
      rw [if_pos (Array.getElem?_eq_some_iff.1 this).1]
      exact hu
    · cases hu
  · rw [if_neg e] at hu ⊢
    exact h2 j u hu
theorem OwnL.row {size base c n : Nat} (h : OwnL E size base w (some ⟨g, 0, none⟩) c n xs) : base ≤ g ∧ RowAt w g E xs := by
  rcases h.form with ⟨h1, _⟩ | ⟨g', h1, h2, _, _, _, _, hc⟩
  · cases h1
  · cases h1
    refine ⟨h2, ?_⟩
    rcases h.2 with ⟨hn, _⟩ | ⟨g'', cap, cur, hv, hbg, hg, _⟩
    · simp at hn
    · simp only [Value.slice.injEq, Option.some.injEq, Addr.mk.injEq, and_true] at hv
      obtain ⟨rfl, _⟩ := hv
      exact ⟨cur, hg, fun j u hu => by rw [← Cells.cell hg j]; exact hc j u hu⟩
end

/-- A row of ints of one's own, from its beginning. -/
def RowI (w : World) (g : Nat) (l : List Int) : Prop := RowAt w g 3 (l.map (Value.int .i64))
section
variable {w w' : World} {g : Nat} {l : List Int}
theorem RowI.lt (h : RowI w g l) : g < w.heap.size := RowAt.lt h
theorem RowI.cell (h : RowI w g l) {k : Nat} (hk : k < l.length) : w.cell? ⟨g, k, none⟩ = some (.int .i64 (l.getD k 0)) := RowAt.cell h (by simp [hk])
theorem RowI.frozen (h : RowI w g l) (k : Nat) : w.frozen? ⟨g, k, none⟩ = false := RowAt.frozen h k
theorem RowI.below (h : RowI w g l) (hb : Below w.heap.size w w') : RowI w' g l := RowAt.below h hb
theorem RowI.set (h : RowI w g l) (k : Nat) (v : Int) : RowI (w.setCell ⟨g, k, none⟩ (.int .i64 v)) g (l.set k v) := by
  have := RowAt.set h k (.int .i64 v)
  unfold RowI
  rwa [List.map_set]
theorem RowI.ints (h : RowI w g l) : IntsAt w (some ⟨g, 0, none⟩) l := fun k hk => ⟨g, 0, rfl, h.lt, by rw [Nat.zero_add]; exact h.cell hk⟩
end
theorem payB_eq (n : Nat) (f t m : Int) : payB n (f, t, m) = (inR f 0 ((n : Int) - 1) && inR t 0 ((n : Int) - 1) && f != t && inR m 1 100000) := by
  rw [Bool.eq_iff_iff]
  simp only [payB, inR, Bool.and_eq_true, decide_eq_true_eq, bne_iff_ne, ne_eq]
  constructor
  · rintro ⟨⟨⟨⟨⟨⟨a, b⟩, c⟩, d⟩, e⟩, f⟩, g⟩
    exact ⟨⟨⟨⟨a, by omega⟩, c, by omega⟩, e⟩, f, g⟩
  · rintro ⟨⟨⟨⟨a, b⟩, c, d⟩, e⟩, f, g⟩
    exact ⟨⟨⟨⟨⟨⟨a, by omega⟩, c⟩, by omega⟩, e⟩, f⟩, g⟩
def zeroI (n : Int) : Bool := n == 0
set_option maxHeartbeats 400000 in
theorem isZero_any (n : Int) (w : World) : Calls Try.prog 72 #[.int .i64 n] w fun e w' => e = .returned (.bool (zeroI n)) ∧ Below w.heap.size w w' := by
  go_enter Try.func72, Try.ntmps72
  go_wp2
  go_ret
  exact ⟨rfl, Below.refl _ _⟩
def proveF (l : List Int) (ps : List (Int × Int × Int)) (many : Int) : Bool := decide (balsErr l = 0) && decide ((ps.length : Int) ≤ many) && settlesF l.length l ps
theorem settles_at (n : Nat) (l : List Int) (ps : List (Int × Int × Int)) {k : Nat} (hk : k < ps.length) : settlesF n l (ps.drop k) = (payB n ps[k] && settlesF n (payF l ps[k]) (ps.drop (k + 1))) := by
  rw [List.drop_eq_getElem_cons hk, settlesF]
/-- All numbers are at most so great. -/
def BdI (l : List Int) (b : Int) : Prop := ∀ x ∈ l, -b ≤ x ∧ x ≤ b
theorem BdI.at_ {l : List Int} {b : Int} (h : BdI l b) (k : Nat) (hk : k < l.length) : -b ≤ l.getD k 0 ∧ l.getD k 0 ≤ b := h _ (by rw [List.getD_eq_getElem?_getD, List.getElem?_eq_getElem hk]; exact List.getElem_mem hk)
theorem BdI.set {l : List Int} {b : Int} (h : BdI l b) (k : Nat) (v : Int) (c : Int) (hc : b ≤ c) (hv : -c ≤ v ∧ v ≤ c) : BdI (l.set k v) c := fun x hx => by
  rcases List.mem_or_eq_of_mem_set hx with e | e
  · have := h x e; omega
  · subst e; exact hv
theorem Recs3At.read {w : World} {a : Option Addr} {xs : List (Int × Int × Int)} (h : Recs3At w a xs) {k : Nat} (hk : k < xs.length) {f t m : Int} (e : xs[k] = (f, t, m)) : ∃ b off, a = some ⟨b, off, none⟩ ∧ b < w.heap.size ∧ w.cell? ⟨b, off + k * 3, none⟩ = some (.int .i64 f) ∧ w.cell? ⟨b, off + k * 3 + 1, none⟩ = some (.int .i64 t) ∧ w.cell? ⟨b, off + k * 3 + 2, none⟩ = some (.int .i64 m) := by
  obtain ⟨b, off, h1, h2, h3, h4, h5⟩ := h k hk
  rw [e] at h3 h4 h5
  exact ⟨b, off, h1, h2, h3, h4, h5⟩
section
variable (a : Option Addr) (l : List Int) (c : Nat) (hn : a = none → l = [] ∧ c = 0) (ap : Option Addr) (ps : List (Int × Int × Int)) (cp : Nat) (many : Int) (w : World) (hx : IntsAt w a l) (hl : l.length ≤ 1000) (hp : Recs3At w ap ps) (hpl : ps.length ≤ 1000)
include hn hx hl hp hpl
set_option maxRecDepth 100000 in
set_option maxHeartbeats 4000000 in
theorem ProveSettled_any : Calls Try.prog 32 #[.slice a l.length c, .slice ap ps.length cp, .int .i64 many] w fun e w' => e = .returned (.bool (proveF l ps many)) ∧ Below w.heap.size w w' := by
  have ck := checkBalances_any a l c w hx hl
  obtain ⟨Z, hZ⟩ : ∃ Z, proveF l ps many = Z := ⟨_, rfl⟩
  rw [hZ]
  have HZ := Lib.hid hZ
  clear hZ
  by_cases h0 : balsErr l = 0
  · rw [h0] at ck
    obtain ⟨hl7, hne, hd, hz⟩ := balsErr_ok h0
    by_cases hm : (ps.length : Int) ≤ many
    · have hmd : decide (many < (ps.length : Int)) = false := by simp; omega
      have hcl := fun W (b : Below w.heap.size w W) => clone_any a l c W (hx.below b) hn (by omega)
      have hlp : 0 < l.length := List.length_pos_iff.2 hne
      have hbd : BdI l 100000 := debts hd
      have hZ2 : settlesF l.length l ps = Z := by rw [← HZ.out, proveF, h0]; simp [hm]
      have HZ2 := Lib.hid hZ2
      have w1_ : IntKind.i64.wrap ((l.length : Int) - 1) = (l.length : Int) - 1 := IntWalk.i64_in _ (by omega)
      clear hZ2 h0 hz hne HZ hd
      go_enter Try.func32, Try.ntmps32
      go_wp2_with (first
        | (go_at_call 64; (with_reducible refine ck.mono ?_); rintro e w1 ⟨rfl, b1⟩)
        | (go_at_call 58; (with_reducible refine (hcl _ (by assumption)).mono ?_); rintro e w2 ⟨a2, c2, rfl, own2, b2⟩))
      obtain ⟨g, rfl⟩ : ∃ g, a2 = some ⟨g, 0, none⟩ := by
        rcases own2.form with ⟨_, _, h, _⟩ | ⟨g, h, _⟩
        · omega
        · exact ⟨g, h⟩
      obtain ⟨hgb, hrow⟩ := own2.row
      have hr : RowI w2 g l := hrow
      clear hrow own2 hn hcl ck
      go_loopw [10, 29] (fun _ j X => ∃ (k : Nat) (L : List Int), k ≤ ps.length ∧ j = .int .i64 k ∧ L.length = l.length ∧ RowI X g L ∧ BdI L (100000 * (k + 1 : Nat)) ∧ Below w1.heap.size w1 X ∧ settlesF l.length L (ps.drop k) = Z) (fun _ j _ => ps.length - (intOf j).toNat)
      case atStart => exact ⟨0, l, Nat.zero_le _, rfl, rfl, hr, by simpa using hbd, b2, HZ2.out⟩
      case round =>
        obtain ⟨k, L, hk, rfl, hLl, hR, hB, hb, hs⟩ := hrel
        rename World => X
        have hbX := b1.trans (hb.mono b1.size)
        have HLl := Lib.hid hLl
        have Hs := Lib.hid hs
        clear hs
        by_cases hlt : k < ps.length
        · have hkI : (k : Int) < (ps.length : Int) := by omega
          obtain ⟨f, t, m, he⟩ : ∃ f t m, ps[k] = (f, t, m) := ⟨_, _, _, rfl⟩
          obtain ⟨b, off, rfl, hbl, p0, p1, p2⟩ := (hp.below hbX).read hlt he
          have hst := settles_at l.length L ps hlt
          rw [he, payB_eq, Hs.out] at hst
          have Hst := Lib.hid hst
          clear hst he hLl
          have has1 := has_any 0 ((l.length : Int) - 1) f
          have has2 := has_any 0 ((l.length : Int) - 1) t
          have wi := within_any m 1 100000
          obtain ⟨V1, hV1⟩ : ∃ V, inR f 0 ((l.length : Int) - 1) = V := ⟨_, rfl⟩
          obtain ⟨V2, hV2⟩ : ∃ V, inR t 0 ((l.length : Int) - 1) = V := ⟨_, rfl⟩
          obtain ⟨V4, hV4⟩ : ∃ V, inR m 1 100000 = V := ⟨_, rfl⟩
          rw [hV1] at has1
          rw [hV2] at has2
          rw [hV4] at wi
          have HV1 := Lib.hid hV1
          have HV2 := Lib.hid hV2
          have HV4 := Lib.hid hV4
          clear hV1 hV2 hV4
          have C1 := Cells.new X #[.int .i64 f, .int .i64 t, .int .i64 m] 91
          have bC : Below X.heap.size X (X.alloc (.cells #[.int .i64 f, .int .i64 t, .int .i64 m] 91)) := (Below.refl _ _).alloc (Nat.le_refl _) _
          cases V1
          · obtain rfl : Z = false := by rw [Hst.out, HV1.out]; rfl
            go_wp2_with (go_at_call 57; (with_reducible refine (has1 _).mono ?_); rintro e w3 ⟨rfl, b3⟩)
            go_ret
            exact ⟨rfl, hbX.trans ((bC.trans (b3.mono bC.size)).mono hbX.size)⟩
          · go_wp2_with fail
            go_at_call 57
            refine (has1 _).mono ?_
            rintro e w3 ⟨rfl, b3⟩
            have C3 := C1.below b3
            have bX3 := bC.trans (b3.mono bC.size)
            have y0 := C3.cell 0
            have y1 := C3.cell 1
            have y2 := C3.cell 2
            have yl := C3.lt
            simp at y0 y1 y2
            cases V2
            · obtain rfl : Z = false := by rw [Hst.out, HV2.out]; simp
              go_wp2_with (go_at_call 57; (with_reducible refine (has2 _).mono ?_); rintro e w4 ⟨rfl, b4⟩)
              go_ret
              exact ⟨rfl, hbX.trans ((bX3.trans (b4.mono bX3.size)).mono hbX.size)⟩
            · go_wp2_with fail
              go_at_call 57
              refine (has2 _).mono ?_
              rintro e w4 ⟨rfl, b4⟩
              have C4 := C3.below b4
              have bX4 := bX3.trans (b4.mono bX3.size)
              clear y0 y1 y2 yl C3 C1 b3 b4 bX3 bC
              have y0 := C4.cell 0
              have y1 := C4.cell 1
              have y2 := C4.cell 2
              have yl := C4.lt
              simp at y0 y1 y2
              by_cases hft : f = t
              · obtain rfl : Z = false := by rw [Hst.out, hft]; simp
                have hfb : (f == t) = true := by simpa using hft
                clear hft
                go_wp2
                go_ret
                exact ⟨rfl, hbX.trans (bX4.mono hbX.size)⟩
              · have hfb : (f == t) = false := by simpa using hft
                cases V4
                · obtain rfl : Z = false := by rw [Hst.out, HV4.out]; simp
                  clear hft
                  go_wp2_with (go_at_call 55; (with_reducible refine (wi _).mono ?_); rintro e _ ⟨rfl, rfl⟩)
                  go_ret
                  exact ⟨rfl, hbX.trans (bX4.mono hbX.size)⟩
                · have g1 := inR_iff.1 HV1.out
                  have g2 := inR_iff.1 HV2.out
                  have g4 := inR_iff.1 HV4.out
                  obtain ⟨fN, rfl⟩ : ∃ fN : Nat, f = (fN : Int) := ⟨f.toNat, by omega⟩
                  obtain ⟨tN, rfl⟩ : ∃ tN : Nat, t = (tN : Int) := ⟨t.toNat, by omega⟩
                  have hnl := HLl.out
                  have hfl : fN < L.length := by omega
                  have htl : tN < L.length := by omega
                  have hZ3 : Z = settlesF l.length (payF L ((fN : Int), (tN : Int), m)) (ps.drop (k + 1)) := by
                    have := Hst.out
                    rw [HV1.out, HV2.out, HV4.out] at this
                    have e : ((fN : Int) != (tN : Int)) = true := by simpa using hft
                    rw [e] at this
                    simpa using this
                  have hPF : payF L ((fN : Int), (tN : Int), m) = (L.set fN (L.getD fN 0 + m)).set tN ((L.set fN (L.getD fN 0 + m)).getD tN 0 - m) := by simp [payF]
                  have hLt : (L.set fN (L.getD fN 0 + m)).getD tN 0 = L.getD tN 0 := by
                    have : ¬ fN = tN := by omega
                    simp [List.getElem?_set, this]
                  have hbf := hB.at_ fN hfl
                  have hbt := hB.at_ tN htl
                  rw [hLt] at hPF
                  obtain ⟨x, hxe⟩ : ∃ x, L.getD fN 0 = x := ⟨_, rfl⟩
                  obtain ⟨y, hye⟩ : ∃ y, L.getD tN 0 = y := ⟨_, rfl⟩
                  rw [hxe] at hPF hLt hbf
                  rw [hye] at hPF hbt hLt
                  have hR4 := hR.below bX4
                  have cf := hR4.cell hfl
                  rw [hxe] at cf
                  have ff := hR4.frozen fN
                  have gl := hR4.lt
                  have wA : IntKind.i64.wrap (x + m) = x + m := IntWalk.i64_in _ (by omega)
                  have wB : IntKind.i64.wrap (y - m) = y - m := IntWalk.i64_in _ (by omega)
                  have hfI : (fN : Int) < (l.length : Int) := by omega
                  have htI : (tN : Int) < (l.length : Int) := by omega
                  have hgX : g ≠ X.heap.size := by have := hR.lt; omega
                  have bb := hb.trans (bX4.mono hb.size)
                  have hB2 : BdI ((L.set fN (x + m)).set tN (y - m)) (100000 * (k + 1 + 1 : Nat)) := (hB.set fN (x + m) _ (by push_cast; omega) (by push_cast; push_cast at hbf; omega)).set tN (y - m) _ (Int.le_refl _) (by push_cast; push_cast at hbt; omega)
                  have HB2 := Lib.hid hB2
                  have HZ3 := Lib.hid hZ3
                  have HPF := Lib.hid hPF
                  have HLt := Lib.hid hLt
                  have Hft := Lib.hid hft
                  clear hft hB2 hZ3 hPF hLt hxe hye hnl g1 g2 has1 has2 hB
                  go_wp2_with (go_at_call 55; (with_reducible refine (wi _).mono ?_); rintro e _ ⟨rfl, rfl⟩)
                  (refine wp_region_seq 9 [] [9] 79 [true, true, true, true, true, true, true, true, true] [] (by kernel_rfl) (by kernel_rfl) rfl mono_nil ?_; simp only [pickOps, List.filterMap_cons, List.filterMap_nil, List.getElem?_toArray, List.getElem?_cons_succ, List.getElem?_cons_zero]; (repeat (refine wpFl_step _ rfl (fun w => (by go_simp; rfl)) ?_)); refine wpFl_nil ?_; simp only [maskOps, dummy, Act.put, List.setIfInBounds_toArray, List.set_cons_zero, List.set_cons_succ, List.take_succ_cons, List.take_zero, List.drop_succ_cons, List.drop_zero]; (repeat (refine wpQB_step (fun K hK => ?_); go_simp; first | (refine hK _ ?_; clear hK K) | (apply Exists.intro; refine ⟨fun ex => ?_, hK _ ?_⟩; (fail); clear hK K))); refine wpQB_nil ?_; simp only [relObl2, under, relEnd, and_true, List.nil_append, List.cons_append])
                  refine ⟨trivial, fun e => ?_⟩
                  have b5 := e.below
                  obtain ⟨w5, hw5⟩ : ∃ x : World, x = e.to := ⟨_, rfl⟩
                  rw [← hw5] at b5 ⊢
                  clear hw5 e
                  have cf5 := below_cell b5 cf
                  have ff5 := (hR4.below b5).frozen fN
                  have C5 := C4.below b5
                  have gl5 := Nat.lt_of_lt_of_le gl b5.size
                  clear cf ff y0 y1 y2 yl
                  go_upto_region 11 with fail
                  obtain ⟨W6, hW6⟩ : ∃ z : World, z = w5.setCell ⟨g, fN, none⟩ (.int .i64 (x + m)) := ⟨_, rfl⟩
                  have hR6 : RowI W6 g (L.set fN (x + m)) := by rw [hW6]; exact (hR4.below b5).set fN _
                  have C6 : Cells W6 X.heap.size #[.int .i64 (fN : Int), .int .i64 (tN : Int), .int .i64 m] 91 := by rw [hW6]; exact C5.other hgX.symm _ _
                  have b6 : Below w1.heap.size w1 W6 := by rw [hW6]; exact (bb.trans (b5.mono bb.size)).setCell (p := ⟨g, fN, none⟩) hgb _
                  rw [← hW6]
                  have ct := hR6.cell (k := tN) (by simpa using htl)
                  rw [HLt.out] at ct
                  have gl6 := hR6.lt
                  have y0 := C6.cell 0
                  have y1 := C6.cell 1
                  have y2 := C6.cell 2
                  have yl := C6.lt
                  simp at y0 y1 y2
                  clear hW6 cf5 ff5 C5 gl5
                  (refine wp_region_seq 9 [] [9] 79 [true, true, true, true, true, true, true, true, true] [] (by kernel_rfl) (by kernel_rfl) rfl mono_nil ?_; simp only [pickOps, List.filterMap_cons, List.filterMap_nil, List.getElem?_toArray, List.getElem?_cons_succ, List.getElem?_cons_zero]; (repeat (refine wpFl_step _ rfl (fun w => (by go_simp; rfl)) ?_)); refine wpFl_nil ?_; simp only [maskOps, dummy, Act.put, List.setIfInBounds_toArray, List.set_cons_zero, List.set_cons_succ, List.take_succ_cons, List.take_zero, List.drop_succ_cons, List.drop_zero]; (repeat (refine wpQB_step (fun K hK => ?_); go_simp; first | (refine hK _ ?_; clear hK K) | (apply Exists.intro; refine ⟨fun ex => ?_, hK _ ?_⟩; (fail); clear hK K))); refine wpQB_nil ?_; simp only [relObl2, under, relEnd, and_true, List.nil_append, List.cons_append])
                  refine ⟨trivial, fun e => ?_⟩
                  have b7 := e.below
                  obtain ⟨w7, hw7⟩ : ∃ x : World, x = e.to := ⟨_, rfl⟩
                  rw [← hw7] at b7 ⊢
                  clear hw7 e
                  have ct7 := below_cell b7 ct
                  have hR7 := hR6.below b7
                  have ff7 := hR7.frozen tN
                  have gl7 := hR7.lt
                  have b17 := b6.trans (b7.mono b6.size)
                  clear ct y0 y1 y2 yl
                  go_wp2
                  go_roundw
                  case rel => exact ⟨k + 1, (L.set fN (x + m)).set tN (y - m), by omega, by go_num, by simp only [List.length_set]; exact HLl.out, hR7.set tN _, HB2.out, b17.setCell (p := ⟨g, tN, none⟩) hgb _, by rw [← HPF.out]; exact HZ3.out.symm⟩
                  case measure => simp [intOf]; omega
        · obtain rfl : k = ps.length := by omega
          have hZ3 : Z = L.all zeroI := by
            have := Hs.out
            rw [List.drop_length] at this
            exact this.symm
          have al := fun W (b : Below X.heap.size X W) => all_int (some ⟨g, 0, none⟩) L c2 72 #[] #[] zeroI W (by have := HLl.out; omega) (hR.ints.below b) (enters Try.func72 (by kernel_rfl) rfl) (fun x _ W' _ => isZero_any x W')
          rw [HLl.out, ← hZ3] at al
          clear hZ3 hLl
          go_wp2_with (go_at_call 71; (with_reducible refine (al _ (Below.refl _ _)).mono ?_); rintro e w9 ⟨rfl, b9⟩)
          go_ret
          exact ⟨rfl, hbX.trans (b9.mono hbX.size)⟩
    · have hmd : decide (many < (ps.length : Int)) = true := by simp; omega
      obtain rfl : Z = false := by rw [← HZ.out, proveF]; simp [hm]
      clear HZ h0 hz hne
      go_enter Try.func32, Try.ntmps32
      go_wp2_with (go_at_call 64; (with_reducible refine ck.mono ?_); rintro e w1 ⟨rfl, b1⟩)
      go_ret
      exact ⟨rfl, b1⟩
  · obtain rfl : Z = false := by rw [← HZ.out, proveF]; simp [h0]
    obtain ⟨E, hE⟩ : ∃ E, balsErr l = E := ⟨_, rfl⟩
    rw [hE] at ck h0
    have h1 : (E != 0) = true := by simpa using h0
    clear HZ hE h0
    go_enter Try.func32, Try.ntmps32
    go_wp2_with (go_at_call 64; (with_reducible refine ck.mono ?_); rintro e w1 ⟨rfl, b1⟩)
    go_ret
    exact ⟨rfl, b1⟩
end
end Go.Proofs.Ytomjlmhnjgohdaa
