/- book, laws: BookExplained -/
import Derived.Test.YticjeianiahppaaGreatDoorEA
import Derived.Test.YticjeianiahppaaGreatDoorDE
import Derived.Test.YticjeianiahppaaGreatDoorDF
import Derived.Test.YticjeianiahppaaGreatDoorBT
namespace Go.Proofs.YticjeianiahppaaGreatDoor
set_option linter.unusedVariables false
set_option linter.unusedSimpArgs false
set_option linter.unnecessarySimpa false
open Go.RowKit Go.Flow
/-- What is explained: a truth proves it, nothing is odd. -/
theorem expl_law {S : BSt} (h : explOk S = true) (hj : S.journal ≠ []) : Cps.explErr S.post S.journal = 0 ∧ Cps.bookErr S.post S.journal = 0 ∧ Cps.oddOut S.post S.journal = [] ∧ Cps.TruthSmall (Cps.explOut S.post S.journal) ∧ Cps.proveB S.post (Cps.explOut S.post S.journal) S.journal = true := by
  have he : Cps.explErr S.post S.journal = 0 := by
    unfold explOk at h
    simpa [hj] using h
  obtain ⟨hb, hs⟩ := expl_ok.1 he
  obtain ⟨z, hz⟩ := Option.isSome_iff_exists.1 hs
  obtain ⟨e1, e2, e3⟩ := Cps.explain_ok hb hz
  have ho : Cps.explOut S.post S.journal = Cps.truthF S.post z := by unfold Cps.explOut; rw [if_neg (by simpa using hb), hz]
  refine ⟨he, hb, ?_, by rw [ho]; exact e2, ?_⟩
  · unfold Cps.oddOut; rw [if_pos hb]; exact Cps.odd_none hs
  · rw [ho]; unfold Cps.proveB; simp [hb, e1, e3]
set_option maxRecDepth 100000 in
set_option maxHeartbeats 4000000 in
theorem bookExplained_walk (a : Option Addr) (l : List ByteArray) (c : Nat) (w : World) (hl : StrsAt w a l) (hn : a = none → c = 0) (hm : l.length ≤ 9223372036854775807) (_ : l.length ≤ c) (hv : Vars w) :
    Calls Tryz.prog 20 #[.slice a l.length c] w fun e w' => e = .returned (.bool true) ∧ Below w.heap.size w w' := by
  have rd : Calls _ _ #[.slice a l.length c, .int .i64 50] w _ := ready_any a c 50 l w hl hm
  cases hr : readyB l 50
  · rw [hr] at rd
    clear hr
    go_enter Tryz.func20, Tryz.ntmps20
    go_wp2_with fail
    go_at_call 55
    refine rd.mono ?_
    rintro e W1 ⟨rfl, b1⟩
    go_wp2_with fail
    go_at_call 37
    refine (awake_any W1 (hv.below b1)).mono ?_
    rintro e W2 ⟨rfl, b2⟩
    go_wp2_with fail
    go_ret
    exact ⟨rfl, b1.trans (b2.mono b1.size)⟩
  · obtain ⟨h0, _, _⟩ := ready_ok hr
    rw [hr] at rd
    clear hr
    have H0 := Lib.hid h0
    clear h0
    have F := after_few l
    have hx : explOk (afterL l) = true := expl_play rfl l
    have pl := fun W (b : Below w.heap.size w W) => played_any a c l W (hl.below b) hn H0.out (hv.below b)
    unfold PlayedPost at pl
    generalize afterL l = S at F hx pl
    go_enter Tryz.func20, Tryz.ntmps20
    go_wp2_with fail
    go_at_call 55
    refine rd.mono ?_
    rintro e W1 ⟨rfl, b1⟩
    go_wp2_with fail
    go_at_call 56
    refine (pl W1 b1).mono ?_
    rintro e W2 ⟨⟨A, a2, c2, rfl, hL, _⟩, b2⟩
    have t2 := b1.trans (b2.mono b1.size)
    clear pl b1 b2 rd
    go_upto_region 4 with fail
    obtain ⟨V, hV⟩ : ∃ x : World, x = W2.alloc (.cells (stCells S A) 57) := ⟨_, rfl⟩
    have bv : Below W2.heap.size W2 V := by rw [hV]; exact Joins.below_alloc1 _ _
    have C3 : Cells V W2.heap.size (stCells S A) 57 := by rw [hV]; exact Cells.new _ _ _
    change Code.wp _ _ _ _ (W2.alloc (.cells (stCells S A) 57))
    rw [← hV]
    clear hV
    have tv := t2.trans (bv.mono t2.size)
    replace hL := hL.below bv
    generalize W2.heap.size = g at C3 ⊢
    clear t2 bv
    have hvV := hv.below tv
    have lg := C3.lt
    have p5 := C3.cell 5
    have p6 := C3.cell 6
    have p7 := C3.cell 7
    have p8 := C3.cell 8
    simp at p5 p6 p7 p8
    by_cases hj : S.journal = []
    · have hj0 : S.journal.length = 0 := by rw [hj]; rfl
      rw [hj0] at p8
      go_wp2_with fail
      go_at_call 37
      refine (awake_any V hvV).mono ?_
      rintro e W3 ⟨rfl, b3⟩
      go_wp2_with fail
      go_ret
      exact ⟨rfl, tv.trans (b3.mono tv.size)⟩
    · obtain ⟨e1, e2, e3, e4, e5⟩ := expl_law hx hj
      have hj0 : S.journal.length ≠ 0 := fun e => hj (List.eq_nil_of_length_eq_zero e)
      have hjI : ¬ ((S.journal.length : Int) = 0) := by omega
      obtain ⟨t, ht⟩ : ∃ t, Cps.explOut S.post S.journal = t := ⟨_, rfl⟩
      rw [ht] at e4 e5
      obtain ⟨n, hn⟩ : ∃ n, t.length = n := ⟨_, rfl⟩
      have HE := Lib.hid e1
      have HT := Lib.hid ht
      have HN := Lib.hid hn
      have HS := Lib.hid F.small
      have H4 := Lib.hid e4
      have H5 := Lib.hid e5
      have hjl : S.journal.length ≤ 1000 := by have := F.journal; omega
      have ex := Cps.explain_eq A.as_ A.cs A.ar A.cr S.post A.aj S.journal A.cj V 0 t n HE HT HN hL.sends.atI hL.routes.atR HS hL.journal.atE hjl
      have od := fun (W : World) (b : Below V.heap.size V W) => Cps.Odd0_any A.as_ A.cs A.ar A.cr S.post A.aj S.journal A.cj W (hL.sends.atI.below b) (hL.routes.atR.below b) F.small (hL.journal.atE.below b) (by omega) (expl_ok.1 e1).2
      rw [e2, e3] at od
      clear ht hn e1 e2 e3 e4 e5
      go_wp2_with fail
      go_at_call 34
      refine ex.mono ?_
      rintro e W3 ⟨⟨a3, c3, rfl, h3, _⟩, b3⟩
      have t3 := tv.trans (b3.mono tv.size)
      have q5 := (C3.below b3).cell 5
      have q6 := (C3.below b3).cell 6
      have q7 := (C3.below b3).cell 7
      have q8 := (C3.below b3).cell 8
      have lg3 := (C3.below b3).lt
      simp at q5 q6 q7 q8
      clear p5 p6 p7 p8 ex lg
      go_wp2_with fail
      go_at_call 73
      refine (od W3 b3).mono ?_
      rintro e W4 ⟨⟨a4, c4, rfl, _⟩, b4⟩
      have b4' := b3.trans (b4.mono b3.size)
      have t4 := t3.trans (b4.mono t3.size)
      have p5 := (C3.below b4').cell 5
      have p6 := (C3.below b4').cell 6
      have p7 := (C3.below b4').cell 7
      have p8 := (C3.below b4').cell 8
      have lg4 := (C3.below b4').lt
      simp at p5 p6 p7 p8
      clear q5 q6 q7 q8 od lg3
      go_wp2_with fail
      go_at_call 74
      refine (Cps.prove_eq A.as_ A.cs A.ar A.cr S.post a3 t n c3 A.aj S.journal A.cj W4 true H5 HN (hL.sends.atI.below b4') (hL.routes.atR.below b4') HS (h3.below b4) H4 (hL.journal.atE.below b4') hjl).mono ?_
      rintro e W5 ⟨rfl, b5⟩
      have t5 := t4.trans (b5.mono t4.size)
      go_wp2_with fail
      go_at_call 37
      refine (awake_any W5 (hv.below t5)).mono ?_
      rintro e W6 ⟨rfl, b6⟩
      go_wp2_with fail
      go_ret
      exact ⟨rfl, t5.trans (b6.mono t5.size)⟩
end Go.Proofs.YticjeianiahppaaGreatDoor
