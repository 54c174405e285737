/- flash: the reference's IsText, Signs; the law's Code -/
import Derived.Test.YtnofcpihkglmmaaFp
namespace Go.Proofs.Ytnofcpihkglmmaa
set_option linter.unusedVariables false
set_option linter.unusedSimpArgs false
set_option linter.unnecessarySimpa false
open Go.RowKit Go.Flow
section
variable (a : Option Addr) (ss : List ByteArray) (c : Nat) (at0 : Option Addr) (text : List Int) (ct : Nat) (w : World) (hl : ss.length ≤ 1000) (ht : IntsAt w at0 text) (htl : text.length ≤ 1000)
def isTextB (n : Nat) (text : List Int) : Bool := text.all fun x => decide ((0 : Int) ≤ x) && decide (x ≤ (n : Int) - 1)
include hl ht htl
end
section
variable (a : Option Addr) (ss : List ByteArray) (c : Nat) (at0 : Option Addr) (text : List Int) (ct : Nat) (SS : List (List UInt8)) (hSS : ss.map (fun x => x.data.toList) = SS) (w : World) (hx : StrsAt w a ss) (hl : ss.length ≤ 1000) (ht : IntsAt w at0 text) (htl : text.length ≤ 1000) (hin : ∀ x ∈ text, 0 ≤ x ∧ x < ss.length) (hz : ∀ x ∈ ss, x.size ≤ 1000)
include hSS hx ht htl hin hz
set_option maxRecDepth 100000 in
set_option maxHeartbeats 2000000 in
theorem f2Signs : Calls Try.prog 26 #[.agg #[.slice a ss.length c], .slice at0 text.length ct] w fun e w' => ∃ Z : ByteArray, (e = .returned (.string Z) ∧ Z.data.toList = sentF SS [] text) ∧ Below w.heap.size w w' := by
  have hb : Below w.heap.size w (w.alloc (.cells #[.slice a ss.length c] 24)) := by (repeat (first | exact Below.refl _ _ | refine Below.alloc ?_ (by first | omega | (simp; done) | (simp; omega)) _ | refine Below.drew ?_ | refine Below.setCell ?_ (by first | omega | (simp; done) | (simp; omega)) _ | refine Below.trans ?_ (Below.mono (by assumption) (by first | omega | (simp; done) | (simp; omega)))))
  have C0 := Cells.new w #[.slice a ss.length c] 24
  obtain ⟨W, hW⟩ : ∃ z : World, z = w.alloc (.cells #[.slice a ss.length c] 24) := ⟨_, rfl⟩
  rw [← hW] at hb C0
  have q0 := C0.cell 0
  simp at q0
  have lq := C0.lt
  have ht1 := ht.below hb
  have hx1 := hx.below hb
  have HW := Lib.hid hW
  have Hin := Lib.hid hin
  have HSS := Lib.hid hSS
  have Hz := Lib.hid hz
  clear hW C0 ht hx hin hSS hz
  go_enter Try.func26, Try.ntmps26
  go_upto_region 1 with fail
  rw [← HW.out]
  go_upto_region 3 with fail
  go_loopw [5, 6] (fun z i X => ∃ (k : Nat) (Z : ByteArray), k ≤ text.length ∧ i = .int .i64 k ∧ z = .string Z ∧ Below w.heap.size w X ∧ Below W.heap.size W X ∧ Z.data.toList ++ sentF SS (text.take k) (text.drop k) = sentF SS [] text ∧ Z.size ≤ 2000 * k) (fun _ u _ => text.length - (intOf u).toNat)
  case atStart => exact ⟨0, ⟨#[]⟩, by omega, rfl, rfl, hb, Below.refl _ _, by simp, Nat.le_refl _⟩
  case round =>
    obtain ⟨k, Z, hk, rfl, rfl, hbX, hbW, hse, hZs⟩ := hrel
    rename World => X
    have Hse := Lib.hid hse
    clear hse
    have p0 := below_cell hbW q0
    have lp : w.heap.size < X.heap.size := Nat.lt_of_lt_of_le lq hbW.size
    by_cases hlt : k < text.length
    · have hkI : (k : Int) < (text.length : Int) := by omega
      have hk0 : (0 : Int) ≤ (k : Int) := by omega
      obtain ⟨b0, o0, rfl, lb, hc⟩ := ht1.below hbW k hlt
      have hxk := Hin.out text[k] (List.getElem_mem hlt)
      have hgk : text.getD k 0 = text[k] := by rw [List.getD_eq_getElem?_getD, List.getElem?_eq_getElem hlt]; rfl
      rw [hgk] at hc
      obtain ⟨n, hn⟩ : ∃ n : Nat, text[k] = (n : Int) := ⟨text[k].toNat, by omega⟩
      rw [hn] at hc hxk
      have hnl : n < ss.length := by omega
      have hnI : (n : Int) < (ss.length : Int) := by omega
      have hn0 : (0 : Int) ≤ (n : Int) := by omega
      obtain ⟨b1, o1, rfl, lb1, hc1⟩ := hx1.below hbW n hnl
      obtain ⟨y, hye⟩ : ∃ y, ss[n] = y := ⟨_, rfl⟩
      rw [hye] at hc1
      have hys : y.size ≤ 1000 := hye ▸ Hz.out _ (List.getElem_mem hnl)
      have hZs2 : Z.size ≤ 2000000 := by omega
      have hsz1 : (Z ++ y).size = Z.size + y.size := ByteArray.size_append
      have hsz2 : ((Z ++ ⟨#[32]⟩) ++ y).size = Z.size + 1 + y.size := by rw [ByteArray.size_append, ByteArray.size_append]; rfl
      have hsz3 : (Z ++ ⟨#[32]⟩).size = Z.size + 1 := by rw [ByteArray.size_append]; rfl
      have Hs1 := Lib.hid hsz1
      have Hs2 := Lib.hid hsz2
      clear hsz1 hsz2
      have hstep : sentF SS (text.take k) (text.drop k) = sgsOf (text.take k) y.data.toList ++ sentF SS (text.take (k + 1)) (text.drop (k + 1)) := by
        rw [← List.getElem_cons_drop hlt, sentF, hn, List.take_succ_eq_append_getElem hlt, hn]
        congr 2
        rw [← HSS.out, List.getD_eq_getElem?_getD, List.getElem?_map, Int.toNat_natCast, List.getElem?_eq_getElem hnl, hye]
        rfl
      have Hst := Lib.hid hstep
      clear hstep hye hn hgk hxk
      by_cases h0 : k = 0
      · subst h0
        rw [Nat.add_zero] at hc
        have hz0 : ¬ (0 : Int) < ((0 : Nat) : Int) := by omega
        have Hn : Hid ((Z ++ y).data.toList ++ sentF SS (text.take (0 + 1)) (text.drop (0 + 1)) = sentF SS [] text) := Lib.hid (by
          rw [← Hse.out, Hst.out, sgsOf, if_pos (by simp)]
          simp)
        go_upto_region 7 with fail
        (refine wp_region_ext 10 (by kernel_rfl) (by kernel_rfl) ?_; simp only [List.take_succ_cons, List.take_zero, List.drop_succ_cons, List.drop_zero]; (repeat (go_big_quiet_step ((fail)))); refine wpQuiet_nil ?_; rintro _ ⟨ex, rfl⟩; have hex := ex.below; have hexz := ex.size; (try simp at hexz); (try (have hy0 : w.heap.size < ex.to.heap.size := by omega)); (try (have hy1 : w.heap.size + 1 < ex.to.heap.size := by omega)); (try (have hy2 : w.heap.size + 2 < ex.to.heap.size := by omega)))
        go_wp2
        go_roundw
        case rel => exact ⟨1, Z ++ y, by omega, by go_num, rfl, hbX.trans (hex.mono hbX.size), hbW.trans (hex.mono hbW.size), Hn.out, by rw [Hs1.out]; omega⟩
        case measure => simp [intOf]; omega
      · have hz0 : (0 : Int) < (k : Int) := by omega
        have Hn : Hid (((Z ++ ⟨#[32]⟩) ++ y).data.toList ++ sentF SS (text.take (k + 1)) (text.drop (k + 1)) = sentF SS [] text) := Lib.hid (by
          rw [← Hse.out, Hst.out, sgsOf, if_neg (fun e => by
            have := congrArg List.length e
            simp at this
            rcases this with h | h
            · exact h0 h
            · rw [h] at hlt; simp at hlt)]
          simp)
        go_upto_region 7 with fail
        (refine wp_region_ext 10 (by kernel_rfl) (by kernel_rfl) ?_; simp only [List.take_succ_cons, List.take_zero, List.drop_succ_cons, List.drop_zero]; (repeat (go_big_quiet_step ((fail)))); refine wpQuiet_nil ?_; rintro _ ⟨ex, rfl⟩; have hex := ex.below; have hexz := ex.size; (try simp at hexz); (try (have hy0 : w.heap.size < ex.to.heap.size := by omega)); (try (have hy1 : w.heap.size + 1 < ex.to.heap.size := by omega)); (try (have hy2 : w.heap.size + 2 < ex.to.heap.size := by omega)))
        go_wp2
        go_roundw
        case rel => exact ⟨k + 1, (Z ++ ⟨#[32]⟩) ++ y, by omega, by go_num, rfl, hbX.trans (hex.mono hbX.size), hbW.trans (hex.mono hbW.size), Hn.out, by rw [Hs2.out]; omega⟩
        case measure => simp [intOf]; omega
    · obtain rfl : k = text.length := by omega
      have hkI : ¬ (text.length : Int) < (text.length : Int) := by omega
      have hfin : Z.data.toList = sentF SS [] text := by
        rw [← Hse.out, List.drop_length, sentF, List.append_nil]
      have Hf := Lib.hid hfin
      clear hfin
      go_wp2
      go_ret
      first | exact ⟨⟨Z, rfl, Hf.out⟩, hbX⟩ | exact ⟨Z, ⟨rfl, Hf.out⟩, hbX⟩
end
theorem info_strF : (Try.prog.info? 9).map (fun i => (i.zero, i.size, i.bytes)) = some (some (.string ⟨#[]⟩), 1, 16) := by kernel_rfl
theorem elStrF : Elem Try.prog 22 9 (.string ⟨#[]⟩) 1 16 := ⟨Try.underlying22, info_parts info_strF, rfl, by decide⟩
theorem SrcAt.strs {w : World} {a : Option Addr} {xs : List ByteArray} (h : StrsAt w a xs) : SrcAt w a (xs.map Value.string) := fun j u hu => by
  have hj : j < xs.length := by have := (List.getElem?_eq_some_iff.1 hu).1; simpa using this
  obtain ⟨b, off, ha, _, hc⟩ := h j hj
  refine ⟨b, off, ha, ?_⟩
  rw [hc]
  simp [hj] at hu ⊢
  exact hu
theorem OwnL.strs {base : Nat} {w : World} {a : Option Addr} {c n : Nat} {xs : List ByteArray} (h : OwnL 9 1 base w a c n (xs.map Value.string)) : StrsAt w a xs := fun k hk => by
  rcases h.form with ⟨_, _, _, h4⟩ | ⟨g, rfl, _, hlt, _, _, _, hc⟩
  · simp at h4; subst h4; simp at hk
  · exact ⟨g, 0, rfl, hlt, by rw [Nat.zero_add]; exact hc k _ (by simp [hk])⟩
theorem load_codeF {w : World} {b : Nat} {v0 : Value} (h : Cells w b #[v0] 64) : (loadVar 64 ⟨b, 0, none⟩).run Try.prog w = .ok (.agg #[v0]) w := by
  have hi := Try.isAgg64
  have hs := Try.sizeOf64
  have k0 := h.cell 0
  simp at k0
  go_simp
set_option maxRecDepth 100000 in
set_option maxHeartbeats 2000000 in
theorem f2Code (ad : Addr) (ss : List ByteArray) (c : Nat) (w : World) (hx : StrsAt w (some ad) ss) (hl : ss.length ≤ 1000) : Calls Try.prog 28 #[.agg #[.slice (some ad) ss.length c]] w fun e w' => ∃ a' c', (e = .returned (.agg #[.slice a' ss.length c']) ∧ StrsAt w' a' ss ∧ ss.length ≤ c') ∧ Below w.heap.size w w' := by
  have hb : Below w.heap.size w ((w.alloc (.cells #[.slice (some ad) ss.length c] 24)).alloc (.cells #[.slice none 0 0] 64)) := by (repeat (first | exact Below.refl _ _ | refine Below.alloc ?_ (by first | omega | (simp; done) | (simp; omega)) _ | refine Below.drew ?_ | refine Below.setCell ?_ (by first | omega | (simp; done) | (simp; omega)) _ | refine Below.trans ?_ (Below.mono (by assumption) (by first | omega | (simp; done) | (simp; omega)))))
  have C0 : Cells ((w.alloc (.cells #[.slice (some ad) ss.length c] 24)).alloc (.cells #[.slice none 0 0] 64)) w.heap.size #[.slice (some ad) ss.length c] 24 := (Cells.new _ _ _).alloc _
  have D0 : Cells ((w.alloc (.cells #[.slice (some ad) ss.length c] 24)).alloc (.cells #[.slice none 0 0] 64)) (w.heap.size + 1) #[.slice none 0 0] 64 := Cells.new' _ _ _ _ (by simp)
  obtain ⟨W, hW⟩ : ∃ z : World, z = (w.alloc (.cells #[.slice (some ad) ss.length c] 24)).alloc (.cells #[.slice none 0 0] 64) := ⟨_, rfl⟩
  rw [← hW] at hb C0 D0
  have q0 := C0.cell 0
  simp at q0
  have lq := C0.lt
  have hx1 := hx.below hb
  have HW := Lib.hid hW
  clear hW hx C0
  go_enter Try.func28, Try.ntmps28
  go_upto_region 1 with fail
  rw [← HW.out]
  have hw1 : ∀ u ∈ ss.map Value.string, u.oneCell' = true := fun u hu => by
    obtain ⟨z, _, rfl⟩ := List.mem_map.1 hu; rfl
  have ha : Below W.heap.size W (W.alloc (.cells #[] 9)) := (Below.refl _ _).alloc (Nat.le_refl _) _
  go_wp2_with (at_builtin; refine wpList_app elStrF rfl _ _ rfl W.heap.size _ 0 0 [] rfl (OwnL.lit #[] (Nat.le_refl _) (by decide) rfl) (some ad) ss.length c (ss.map Value.string) rfl (fun e => by cases e) (by simp) (SrcAt.strs (hx1.below ha)) hw1 (by unfold maxLen; omega) (by omega) ha.size ?_)
  intro a' c' w' h1 h2
  have h3 := ha.trans h2
  have D1 := D0.below h3
  have b2 : Below w.heap.size w w' := hb.trans (h3.mono hb.size)
  have h4 := h1.fits.1
  have h5 := OwnL.strs h1
  have ld := D1.lt
  have fd := D1.frozen 0
  have cd := D1.cell 0
  simp at cd
  have D2 := D1.set 0 (.slice a' ss.length c')
  have hz : w.heap.size ≤ w.heap.size + 1 := by omega
  have b3 : Below w.heap.size w (w'.setCell ⟨w.heap.size + 1, 0, none⟩ (.slice a' ss.length c')) := b2.setCell (p := ⟨w.heap.size + 1, 0, none⟩) hz _
  have h6 : StrsAt (w'.setCell ⟨w.heap.size + 1, 0, none⟩ (.slice a' ss.length c')) a' ss := fun k hk => by
    obtain ⟨b, off, rfl, hlt, hc⟩ := h5 k hk
    have hbW : W.heap.size ≤ b := (OwnL.block_ge h1 rfl).1
    have hWw : w.heap.size + 1 < W.heap.size := D0.lt
    exact ⟨b, off, rfl, by simpa [World.setCell] using hlt, by
      rw [← hc]
      have := Below.heap_setCell w' ⟨w.heap.size + 1, 0, none⟩ (.slice (some ⟨b, off, none⟩) ss.length c') b (by show b ≠ w.heap.size + 1; omega)
      simp only [World.cell?, this]⟩
  clear h1 h2 h3 D0 D1 hx1 hb
  go_wp2_with fail
  refine bodyPost_ret (results_cell1 rfl rfl (load_codeF D2)) rfl ?_
  exact ⟨a', c', ⟨rfl, h6, h4⟩, b3⟩
end Go.Proofs.Ytnofcpihkglmmaa
