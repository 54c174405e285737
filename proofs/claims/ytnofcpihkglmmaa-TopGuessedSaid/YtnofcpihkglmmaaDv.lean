/- cipher: Guessed -/
import Derived.Test.YtnofcpihkglmmaaCep
import Derived.Test.YtnofcpihkglmmaaDq
import Derived.Test.YtnofcpihkglmmaaLa
import Derived.Test.YtnofcpihkglmmaaAp
import Derived.Test.YtnofcpihkglmmaaDi
namespace Go.Proofs.Ytnofcpihkglmmaa
set_option linter.unusedVariables false
set_option linter.unusedSimpArgs false
set_option linter.unnecessarySimpa false
open Go.RowKit Go.Flow

section
variable {P : Program} {t E : TypeId} {z : Value} {size bytes : Nat} {ops : Array Oper} {rest : List Oper} {o : Oper} {a : Act} {Q : Exit → Act → World → Prop}
end
theorem info_rguesses : (Try.prog.info? 69).map (fun i => (i.zero, i.size, i.bytes)) = some (some (.agg #[.int .i64 0, .int .i64 0]), 2, 16) := by kernel_rfl
theorem el_rguesses : Elem Try.prog 37 69 (.agg #[.int .i64 0, .int .i64 0]) 2 16 := ⟨Try.underlying37, info_parts info_rguesses, rfl, by decide⟩
/-- The codes of a plain text by one key. -/
def codesK (s m a st : Int) (plain : List Int) (k : Nat) : List Int := upTo (fun i => codeN s m a st (plain.getD i 0) i) k
/-- Guesses that are true. -/
def TrueG (plain : List Int) (k : Nat) (gl : List (Int × Int)) : Prop := gl.length ≤ 6 ∧ ∀ g ∈ gl, ∃ i : Nat, i < k ∧ g = ((i : Int), plain.getD i 0)
theorem TrueG.mono {plain : List Int} {k : Nat} {gl : List (Int × Int)} (h : TrueG plain k gl) : TrueG plain (k + 1) gl := ⟨h.1, fun g hg => let ⟨i, h1, h2⟩ := h.2 g hg; ⟨i, by omega, h2⟩⟩
theorem TrueG.snoc {plain : List Int} {k : Nat} {gl : List (Int × Int)} {x : Int} (h : TrueG plain k gl) (hl : gl.length < 6) (hx : plain.getD k 0 = x) : TrueG plain (k + 1) (gl ++ [((k : Int), x)]) :=
  ⟨by simp; omega, fun g hg => by
    rcases List.mem_append.1 hg with hg | hg
    · exact h.mono.2 g hg
    · rw [List.mem_singleton.1 hg, ← hx]; exact ⟨k, by omega, rfl⟩⟩
set_option maxRecDepth 100000 in
set_option maxHeartbeats 4000000 in
theorem guessed_any (s wo : Int) (ak : Option Addr) (ks : List (Int × Int × Int)) (ck : Nat) (ad : Option Addr) (ds : List Int) (cd : Nat) (m a st : Int) (ap : Option Addr) (plain : List Int) (cp : Nat) (bits : Int) (w : World) (hk : Recs3At w ak ks) (hd : IntsAt w ad ds) (lk : ks.length ≤ 1000) (ld : ds.length ≤ 1000) (hp : IntsAt w ap plain) (lp : plain.length ≤ 10) (hpa : Hid (plain.all (plainOk s) = true)) (s0 : 13 ≤ s) (s1 : s ≤ 41) (m0 : 0 ≤ m) (m1 : m ≤ s) (a0 : 0 ≤ a) (a1 : a ≤ s) (st0 : 0 ≤ st) (st1 : st ≤ s) (B0 : 0 ≤ bits) (B1 : bits ≤ 65535) :
    Calls Try.prog 10 #[.agg #[.int .i64 s, .int .i64 wo, .slice ak ks.length ck, .slice ad ds.length cd], .agg #[.int .i64 m, .int .i64 a, .int .i64 st], .slice ap plain.length cp, .int .u16 bits] w fun e w' => (∃ a1 c1 a2 c2 gl, e = .returned (.tuple #[.slice a1 plain.length c1, .slice a2 gl.length c2]) ∧ IntsAt w' a1 (codesK s m a st plain plain.length) ∧ (a1 = none → c1 = 0) ∧ Recs2At w' a2 gl ∧ TrueG plain plain.length gl) ∧ Below w.heap.size w w' := by
  go_enter Try.func10, Try.ntmps10
  go_wp2
  obtain ⟨W0, hW0⟩ : ∃ z : World, z = (w.alloc (.cells #[.int .i64 s, .int .i64 wo, .slice ak ks.length ck, .slice ad ds.length cd] 28)).alloc (.cells #[.int .i64 m, .int .i64 a, .int .i64 st] 41) := ⟨_, rfl⟩
  have t0 : Below w.heap.size w W0 := by rw [hW0]; (repeat (first | exact Below.refl _ _ | refine Below.alloc ?_ (by first | omega | (simp; done) | (simp; omega)) _ | refine Below.drew ?_ | refine Below.setCell ?_ (by first | omega | (simp; done) | (simp; omega)) _ | refine Below.trans ?_ (Below.mono (by assumption) (by first | omega | (simp; done) | (simp; omega)))))
  have z0 : W0.heap.size = w.heap.size + 1 + 1 := by rw [hW0]; simp
  have cB : Cells W0 w.heap.size #[.int .i64 s, .int .i64 wo, .slice ak ks.length ck, .slice ad ds.length cd] 28 := by rw [hW0]; exact (Cells.new _ _ _).below ((Below.refl _ _).alloc (Nat.le_refl _) _)
  have cK : Cells W0 (w.heap.size + 1) #[.int .i64 m, .int .i64 a, .int .i64 st] 41 := by
    rw [hW0]
    have := Cells.new (w.alloc (.cells #[.int .i64 s, .int .i64 wo, .slice ak ks.length ck, .slice ad ds.length cd] 28)) #[.int .i64 m, .int .i64 a, .int .i64 st] 41
    rwa [World.size_alloc] at this
  rw [← hW0]
  have z0' : w.heap.size + 1 < W0.heap.size := by omega
  clear hW0 z0
  go_loopw [10, 11, 12] (fun v u i wr => ∃ (k : Nat) (b1 : Option Addr) (c1 : Nat) (b2 : Option Addr) (c2 : Nat) (gl : List (Int × Int)), k ≤ plain.length ∧ i = .int .i64 k ∧ v = .slice b1 k c1 ∧ u = .slice b2 gl.length c2 ∧
    OwnL 3 1 W0.heap.size wr b1 c1 k ((codesK s m a st plain k).map (Value.int .i64)) ∧ OwnL 69 2 W0.heap.size wr b2 c2 gl.length (flat2 gl) ∧ Apart b1 b2 ∧ Hid (TrueG plain k gl) ∧ gl.length ≤ 6 ∧ Below W0.heap.size W0 wr) (fun _ _ i _ => plain.length - (intOf i).toNat)
  case atStart => exact ⟨0, none, 0, none, 0, [], Nat.zero_le _, rfl, rfl, rfl, OwnL.nil _ _ _ _, OwnL.nil _ _ _ _, Apart.none _, Lib.hid ⟨by simp, fun g h => by cases h⟩, by simp, Below.refl _ _⟩
  case round =>
    obtain ⟨k, b1, c1, b2, c2, gl, hk1, rfl, rfl, rfl, own1, own2, hap, Hgl, lgl, bR⟩ := hrel
    have tR := t0.trans (bR.mono t0.size)
    have cBR := cB.below bR
    have cKR := cK.below bR
    have e0 := cBR.cell 0
    have e1 := cBR.cell 1
    have e2 := cBR.cell 2
    have e3 := cBR.cell 3
    have f0 := cKR.cell 0
    have f1 := cKR.cell 1
    have f2 := cKR.cell 2
    simp at e0 e1 e2 e3 f0 f1 f2
    have lB := cBR.lt
    have lK := cKR.lt
    have zR := bR.size
    by_cases hlt : k < plain.length
    · obtain ⟨b, off, rfl, hbl0, c00⟩ := hp k hlt
      have c0 := (tR.cell (p := ⟨b, off + k, none⟩) hbl0).trans c00
      have hbl := Nat.lt_of_lt_of_le hbl0 tR.size
      clear c00
      have hltI : (k : Int) < (plain.length : Int) := by omega
      have hx := List.all_eq_true.1 hpa.out plain[k] (List.getElem_mem hlt)
      simp [plainOk] at hx
      replace c0 := c0.trans (by rw [List.getD_eq_getElem?_getD, List.getElem?_eq_getElem hlt]; rfl : _ = some (Value.int .i64 plain[k]))
      have hg : plain.getD k 0 = plain[k] := by rw [List.getD_eq_getElem?_getD, List.getElem?_eq_getElem hlt]; rfl
      have hsn : codesK s m a st plain (k + 1) = codesK s m a st plain k ++ [codeN s m a st plain[k] k] := by unfold codesK; rw [upTo_succ, hg]
      obtain ⟨x, hxe⟩ : ∃ x, plain[k] = x := ⟨_, rfl⟩
      rw [hxe] at hx c0 hsn hg
      obtain ⟨x0, x1⟩ := hx
      have hcode : ∀ V, Calls Try.prog 23 #[.agg #[.int .i64 s, .int .i64 wo, .slice ak ks.length ck, .slice ad ds.length cd], .agg #[.int .i64 m, .int .i64 a, .int .i64 st], .int .i64 x, .int .i64 k] V fun e w' => e = .returned (.int .i64 (codeN s m a st x k)) ∧ Below V.heap.size V w' := fun V =>
        codeOf_any s wo m a st x k _ _ V (by omega) (by omega) (by omega) (by omega) (by omega) (by omega) (by omega) (by omega) (by omega) (by omega) (by omega) (by omega)
      obtain ⟨v, hv⟩ : ∃ v, codeN s m a st x k = v := ⟨_, rfl⟩
      rw [hv] at hcode hsn
      have Hsn := Lib.hid hsn
      have Hg := Lib.hid hg
      clear hxe hv hsn hg
      go_wp2
      (refine wp_region_seq 10 [] [10, 11] 52 [true, true, true, true, true, true, true, true, true, false] [LitV W0.heap.size 1 #[.int .i64 v] 3] (by kernel_rfl) (by kernel_rfl) rfl (mono_cons (fun v w w' h hb => h.kept hb) mono_nil) ?_; simp only [pickOps, List.filterMap_cons, List.filterMap_nil, List.getElem?_toArray, List.getElem?_cons_succ, List.getElem?_cons_zero]; (repeat (refine wpFl_step _ rfl (fun w => (by go_simp; rfl)) ?_)); refine wpFl_nil ?_; simp only [maskOps, dummy, Act.put, List.setIfInBounds_toArray, List.set_cons_zero, List.set_cons_succ, List.take_succ_cons, List.take_zero, List.drop_succ_cons, List.drop_zero]; (repeat (refine wpQB_step (fun K hK => ?_); go_simp; first | (refine hK _ ?_; clear hK K) | (apply Exists.intro; refine ⟨fun ex => ?_, hK _ ?_⟩; ((go_at_call 23; exact hcode _)); clear hK K))); refine wpQB_nil ?_; simp only [relObl2, under, relEnd, and_true, List.nil_append, List.cons_append])
      refine ⟨fun e => by go_simp; exact ⟨(Below.refl _ _).alloc (Nat.le_refl _) _, e.to.heap.size, rfl, by have := e.size; omega, Cells.new _ _ _⟩, fun e => ?_⟩
      rintro v1 ⟨gg, rfl, hg1, hgg⟩
      simp only [Act.put, List.setIfInBounds_toArray, List.set_cons_zero, List.set_cons_succ]
      have heb := e.below
      have hez := e.size
      obtain ⟨w5, hw5⟩ : ∃ x : World, x = e.to := ⟨_, rfl⟩
      have own14 := own1.kept heb
      have own24 := own2.kept heb
      rw [← hw5] at heb hez hgg own14 own24 ⊢
      clear hw5 own1 own2
      refine wpList_app_keep elInt rfl _ _ rfl W0.heap.size b1 k c1 _ rfl own14 gg 1 1 _ rfl rfl hgg.src (fun u hu => by simp at hu; subst hu; rfl) (by unfold maxLen; omega) (by omega) (by omega) ?_
      intro b6 c6 w6 own6 hb6 hkeep
      obtain ⟨own26, hap6⟩ := hkeep own24 hap
      have c06 := (hb6.cell (p := ⟨b, off + k, none⟩) (show b < W0.heap.size by omega)).trans (below_cell heb c0)
      have hbl6 : b < w6.heap.size := by have := hb6.size; omega
      clear c0 own14 own24 hkeep
      have bR6 := (bR.trans (heb.mono zR)).trans hb6
      have own6' : OwnL 3 1 W0.heap.size w6 b6 c6 (k + 1) ((codesK s m a st plain (k + 1)).map (Value.int .i64)) := by rw [Hsn.out, List.map_append]; exact own6
      have z6 := hb6.size
      clear own6 hb6 heb hgg hcode
      go_wp2_with (at_builtin; refine wpList_app_lit_at el_rguesses rfl _ _ rfl W0.heap.size b2 gl.length c2 _ rfl own26 1 1 rfl rfl (fun u hu => ?c1) ?c2 ?c3 ?c4 ?_)
      case c1 => simp at hu; rcases hu with rfl | rfl <;> rfl
      case c2 => unfold maxLen; omega
      case c3 => omega
      case c4 => omega
      all_goals first
        | (intro b8 c8 w8 own8 hb8 hkeep
           obtain ⟨own68, hap8⟩ := hkeep own6' hap6.symm
           have hg6 : gl.length < 6 := by omega
           go_wp2
           go_roundw
           case rel => exact ⟨k + 1, b6, c6, b8, c8, gl ++ [((k : Int), x)], by omega, by go_num, rfl, by simp, own68, by rw [flat2_snoc]; simpa using own8, hap8.symm, Lib.hid (Hgl.out.snoc hg6 Hg.out), by simp; omega, bR6.trans hb8⟩
           case measure => simp [intOf]; omega)
        | (go_roundw
           case rel => exact ⟨k + 1, b6, c6, b2, c2, gl, by omega, by go_num, rfl, rfl, own6', own26, hap6, Lib.hid Hgl.out.mono, lgl, bR6⟩
           case measure => simp [intOf]; omega)
    · obtain rfl : k = plain.length := by omega
      have i1 := own1.ints.1
      have i2 := own2.recs2
      have n1 : b1 = none → c1 = 0 := fun h => by subst h; exact own1.isnil.2
      go_wp2
      go_ret2
      exact ⟨⟨b1, c1, b2, c2, gl, rfl, i1, n1, i2, Hgl.out⟩, tR⟩
end Go.Proofs.Ytnofcpihkglmmaa
