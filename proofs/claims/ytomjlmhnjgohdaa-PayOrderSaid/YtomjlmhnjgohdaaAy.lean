/- pay: Groups -/
import Derived.Test.YtomjlmhnjgohdaaAx
namespace Go.Proofs.Ytomjlmhnjgohdaa
set_option linter.unusedVariables false
set_option linter.unusedSimpArgs false
set_option linter.unnecessarySimpa false
open Go.RowKit Go.Flow Go.Shelf

/-- A row of another kind stays. -/
theorem OwnL.beside {E E' : TypeId} (hne : E ≠ E') {size size' base base' : Nat} {w w' : World} {a a' : Option Addr} {c n c' n' : Nat} {xs xs' : List Value} (h : OwnL E size base w a c n xs) (h' : OwnL E' size' base' w a' c' n' xs') (hg : w.grownBy w' (Value.slice a' n' c').ownBlock) : OwnL E size base w' a c n xs := by
  refine ⟨h.1, ?_⟩
  rcases h.2 with hn | ⟨g, cap, cur, hv, hbg, hh, rest⟩
  · exact .inl hn
  · refine .inr ⟨g, cap, cur, hv, hbg, ?_, rest⟩
    rw [hg.block g (Array.getElem?_eq_some_iff.1 hh).1 (fun e => ?_)]
    · exact hh
    · rcases h'.2 with hn | ⟨g', cap', cur', hv', _, hh', _⟩
      · rw [hn.1] at e; simp [Value.ownBlock] at e
      · rw [hv'] at e
        have e : g = g' := by simpa [Value.ownBlock] using e
        subst e
        rw [hh] at hh'
        simp at hh'
        exact hne hh'.2
/-- The slices vs hold the lists xss, each a row of its own. -/
def Lists (w : World) (vs : List Value) (xss : List (List Int)) : Prop :=
  vs.length = xss.length ∧ ∀ k (h : k < xss.length), ∃ al c base, vs[k]? = some (.slice al xss[k].length c) ∧ OwnL 3 1 base w al c xss[k].length (xss[k].map (Value.int .i64))
theorem Lists.nil (w : World) : Lists w [] [] := ⟨rfl, fun k h => by simp at h⟩
theorem Lists.below {w w' : World} {vs : List Value} {xss : List (List Int)} (h : Lists w vs xss) (hb : Below w.heap.size w w') : Lists w' vs xss := ⟨h.1, fun k hk =>
  let ⟨al, c, base, h1, h2⟩ := h.2 k hk
  ⟨al, c, base, h1, h2.kept hb⟩⟩
theorem Lists.beside {w w' : World} {vs : List Value} {xss : List (List Int)} (h : Lists w vs xss) {E : TypeId} (hE : (3 : TypeId) ≠ E) {size base : Nat} {a : Option Addr} {c n : Nat} {xs : List Value} (h' : OwnL E size base w a c n xs) (hg : w.grownBy w' (Value.slice a n c).ownBlock) : Lists w' vs xss := ⟨h.1, fun k hk =>
  let ⟨al, c, base, h1, h2⟩ := h.2 k hk
  ⟨al, c, base, h1, h2.beside hE h' hg⟩⟩
theorem Lists.snoc {w : World} {vs : List Value} {xss : List (List Int)} (h : Lists w vs xss) {al : Option Addr} {c base : Nat} {xs : List Int} (hx : OwnL 3 1 base w al c xs.length (xs.map (Value.int .i64))) : Lists w (vs ++ [.slice al xs.length c]) (xss ++ [xs]) := by
  refine ⟨by simp [h.1], fun k hk => ?_⟩
  by_cases e : k < xss.length
  · obtain ⟨al', c', base', h1, h2⟩ := h.2 k e
    refine ⟨al', c', base', ?_, ?_⟩
    · rw [List.getElem?_append_left (by rw [h.1]; exact e), List.getElem_append_left e]; exact h1
    · rw [List.getElem_append_left e]; exact h2
  · obtain rfl : k = xss.length := by simp at hk; omega
    exact ⟨al, c, base, by rw [List.getElem?_append_right (by rw [h.1]; exact Nat.le_refl _)]; simp [h.1], by simpa using hx⟩
theorem info_ints : (Try.prog.info? 25).map (fun i => (i.zero, i.size, i.bytes)) = some (some (.slice none 0 0), 1, 24) := by kernel_rfl
theorem elInts : Elem Try.prog 81 25 (.slice none 0 0) 1 24 := ⟨Try.underlying81, info_parts info_ints, rfl, by decide⟩
/-- A slice of slices of ints. -/
def ListsAt (w : World) (a : Option Addr) (xss : List (List Int)) : Prop :=
  ∀ k (h : k < xss.length), ∃ b off al c, a = some ⟨b, off, none⟩ ∧ b < w.heap.size ∧ w.cell? ⟨b, off + k, none⟩ = some (.slice al xss[k].length c) ∧ IntsAt w al xss[k]
theorem ListsAt.below {w w' : World} {a : Option Addr} {xss : List (List Int)} (h : ListsAt w a xss) (hb : Below w.heap.size w w') : ListsAt w' a xss := fun k hk =>
  let ⟨b, off, al, c, ha, hlt, hc, hI⟩ := h k hk
  ⟨b, off, al, c, ha, Nat.lt_of_lt_of_le hlt hb.size, (hb.cell (p := ⟨b, off + k, none⟩) hlt).trans hc, hI.below hb⟩
theorem ListsAt.nil (w : World) (a : Option Addr) : ListsAt w a [] := fun k hk => by simp at hk
theorem Lists.at_ {w : World} {vs : List Value} {xss : List (List Int)} (h : Lists w vs xss) {base : Nat} {a : Option Addr} {c n : Nat} (ho : OwnL 25 1 base w a c n vs) : ListsAt w a xss := fun k hk => by
  obtain ⟨al, c', base', h1, h2⟩ := h.2 k hk
  rcases ho.form with ⟨_, _, _, rfl⟩ | ⟨g, rfl, _, hlt, _, _, _, hc⟩
  · simp at h1
  · exact ⟨g, 0, al, c', rfl, hlt, by rw [Nat.zero_add]; exact hc k _ h1, h2.ints.1⟩

theorem grpF_lt {l : List Int} {S : Nat} (hS : S < 1024) (hz : sumM l S = 0) : ∀ s ∈ grpF l S, s < 1024 := by
  have h : ∀ (P : List Nat) (S : Nat), S < 1024 → Parts l S P → ∀ s ∈ P, s < 1024 := by
    intro P
    induction P with
    | nil => intro S _ _ s hs; simp at hs
    | cons t P ih =>
      intro S hS ⟨h1, h2, _, h4⟩ s hs
      have := xor_lt h1 (ne_of_bit h2)
      rcases List.mem_cons.1 hs with e | e
      · subst e
        have : s &&& S ≤ S := Nat.and_le_right
        omega
      · exact ih _ (by omega) h4 s e
  exact h _ S hS (grp_parts l S hS hz)
theorem leftM_lt (l : List Int) (hl : l.length ≤ 7) : leftM l < 128 := Nat.lt_of_lt_of_le (maskOf_lt _ _) (Nat.pow_le_pow_right (n := 2) (by omega) hl)
def groupsL (l : List Int) : List (List Int) := (grpL l).map fun s => setN s 10
theorem balsErr_ok {l : List Int} (h : balsErr l = 0) : l.length ≤ 7 ∧ l ≠ [] ∧ l.all debtB = true ∧ l.sum = 0 := by
  unfold balsErr at h
  split at h
  · omega
  · split at h
    · omega
    · rename_i h1 h2
      simp only [not_or, Bool.not_eq_false] at h2
      split at h
      · omega
      · exact ⟨by omega, h2.1, h2.2, by omega⟩
theorem grpL_len {l : List Int} (hl : l.length ≤ 7) (hz : l.sum = 0) : (grpL l).length ≤ 127 := by
  have := leftM_lt l hl
  have := grp_len l (S := leftM l) (by omega) (by rw [leftM_sum, hz])
  unfold grpL; omega
section
variable (a : Option Addr) (l : List Int) (c : Nat) (w : World) (hx : IntsAt w a l)
include hx
set_option maxRecDepth 100000 in
set_option maxHeartbeats 4000000 in
theorem Groups_bad (hl : l.length ≤ 1000) (E : Int) (hE : balsErr l = E) (hne : E ≠ 0) : Calls Try.prog 45 #[.slice a l.length c] w fun e w' => e = .returned (.tuple #[.slice none 0 0, .int .i64 E]) ∧ Below w.heap.size w w' := by
  have ck := checkBalances_any a l c w hx hl
  rw [hE] at ck
  have h1 : (E != 0) = true := by simpa using hne
  have h2 : (E == 0) = false := by simpa using hne
  clear hE
  go_enter Try.func45, Try.ntmps45
  go_wp2_with (go_at_call 64; (with_reducible refine ck.mono ?_); rintro e w1 ⟨rfl, b1⟩)
  go_ret2
  exact ⟨rfl, b1⟩
set_option maxRecDepth 100000 in
set_option maxHeartbeats 4000000 in
theorem Groups_good (h0 : balsErr l = 0) : Calls Try.prog 45 #[.slice a l.length c] w fun e w' => (∃ ao co, e = .returned (.tuple #[.slice ao (groupsL l).length co, .int .i64 0]) ∧ ListsAt w' ao (groupsL l)) ∧ Below w.heap.size w w' := by
  obtain ⟨hl, _, hd, hz⟩ := balsErr_ok h0
  have ck := checkBalances_any a l c w hx (by omega)
  rw [h0] at ck
  have hgr := fun W (b : Below w.heap.size w W) => groups_any a l c W (hx.below b) hl hd hz
  have hsl := grpF_lt (l := l) (S := leftM l) (by have := leftM_lt l hl; omega) (by rw [leftM_sum, hz])
  have hgl := grpL_len hl hz
  have hG : groupsL l = (grpL l).map fun s => setN s 10 := rfl
  obtain ⟨O, hO⟩ : ∃ O, groupsL l = O := ⟨_, rfl⟩
  rw [hO] at hG ⊢
  obtain ⟨gs, hgs⟩ : ∃ gs, grpL l = gs := ⟨_, rfl⟩
  rw [show grpF l (leftM l) = gs from hgs] at hsl
  rw [hgs] at hG hgl
  simp only [hgs] at hgr
  have HG := Lib.hid hG
  have Hsl := Lib.hid hsl
  clear hG hsl hO hgs h0 hz hd
  go_enter Try.func45, Try.ntmps45
  go_wp2_with (first
    | (go_at_call 64; (with_reducible refine ck.mono ?_); rintro e w1 ⟨rfl, b1⟩)
    | (go_at_call 65; (with_reducible refine (hgr _ (by assumption)).mono ?_); rintro e w2 ⟨⟨ag, cg, rfl, hI, hf⟩, b2⟩))
  clear hf
  have t2 := b1.trans (b2.mono b1.size)
  go_loopw [5, 7, 16] (fun u _ j X => ∃ (k : Nat) (vs : List Value) (ao : Option Addr) (co : Nat), k ≤ gs.length ∧ j = .int .i64 k ∧ u = .slice ao k co ∧ OwnL 25 1 w2.heap.size X ao co k vs ∧ Lists X vs ((gs.take k).map fun s => setN s 10) ∧ Below w2.heap.size w2 X) (fun _ _ j _ => gs.length - (intOf j).toNat)
  case atStart => exact ⟨0, [], none, 0, Nat.zero_le _, rfl, rfl, OwnL.nil _ _ _ _, Lists.nil _, Below.refl _ _⟩
  case round =>
    obtain ⟨k, vs, ao, co, hk, rfl, rfl, own, hL, hb⟩ := hrel
    rename World => X
    by_cases hlt : k < gs.length
    · have hkI : (k : Int) < (gs.length : Int) := by omega
      obtain ⟨b, off, rfl, hbl, hc⟩ := (hI.below hb) k hlt
      replace hc := hc.trans (show some (Value.int .u64 ((gs.getD k 0 : Nat) : Int)) = some (.int .u64 ((gs[k] : Nat) : Int)) by simp [hlt])
      have hst := Hsl.out _ (List.getElem_mem hlt)
      have htk : (gs.take (k + 1)).map (fun s => setN s 10) = (gs.take k).map (fun s => setN s 10) ++ [setN gs[k] 10] := by rw [List.take_succ_eq_append_getElem hlt, List.map_append]; rfl
      obtain ⟨s, hse⟩ : ∃ s, gs[k] = s := ⟨_, rfl⟩
      rw [hse] at hc hst htk
      have hli := setList_any s X hst
      have hsn := setN_len s 10
      obtain ⟨q, hq⟩ : ∃ q, setN s 10 = q := ⟨_, rfl⟩
      rw [hq] at hli htk hsn
      have Htk := Lib.hid htk
      clear htk hse hq
      go_wp2_with fail
      go_at_call 66
      refine hli.mono ?_
      rintro e w3 ⟨⟨al, cl, rfl, own3⟩, b3⟩
      have ownO := own.kept b3
      have L3 := hL.below b3
      have hb3 := hb.trans (b3.mono hb.size)
      go_wp2_with (at_builtin; refine wpList_app_lit_av elInts rfl _ _ rfl w2.heap.size ao k co _ rfl ownO 1 1 rfl rfl (fun u hu => by simp at hu; subst hu; rfl) (by unfold maxLen; omega) (by omega) hb3.size (by omega) ?_; intro a9 c9 w9 own9 hg9 hv9)
      have hne : (3 : TypeId) ≠ 25 := by decide
      have L9 := (L3.snoc own3).below ((Below.refl _ _).alloc (Nat.le_refl _) (.cells #[.slice al q.length cl] 25))
      have L10 := L9.beside hne (ownO.alloc _) hg9
      have b9 : Below w2.heap.size w2 w9 := (hb3.alloc hb3.size _).trans (below_of_grown (ownO.alloc _) (by have := hb3.size; simp; omega) hg9)
      clear hg9 hv9 L9 L3
      go_wp2
      go_roundw
      case rel => exact ⟨k + 1, vs ++ [.slice al q.length cl], a9, c9, by omega, by go_num, rfl, own9, by rw [Htk.out]; exact L10, b9⟩
      case measure => simp [intOf]; omega
    · obtain rfl : k = gs.length := by omega
      have hO2 := HG.out
      rw [List.take_length] at hL
      rw [← hO2] at hL
      have hLa := hL.at_ own
      have hOl : O.length = gs.length := by rw [hO2, List.length_map]
      have HOl := Lib.hid hOl
      clear hO2 hOl
      go_wp2
      go_ret2
      exact ⟨⟨ao, co, by rw [HOl.out]; rfl, hLa⟩, t2.trans (hb.mono t2.size)⟩
end
end Go.Proofs.Ytomjlmhnjgohdaa
