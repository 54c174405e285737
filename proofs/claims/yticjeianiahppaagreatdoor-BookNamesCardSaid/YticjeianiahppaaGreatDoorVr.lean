/- book, laws: BookNames -/
import Derived.Test.YticjeianiahppaaGreatDoorVo
namespace Go.Proofs.YticjeianiahppaaGreatDoor
set_option linter.unusedVariables false
set_option linter.unusedSimpArgs false
set_option linter.unnecessarySimpa false
open Go.RowKit Go.Flow
theorem info_str51 (W : World) : Sem.run Tryz.prog (Instr.makeSlice 32 (.int .i64 51) (.int .i64 51)) W = .ok (.slice (some ⟨W.heap.size, 0, none⟩) 51 51) (W.alloc (.cells (Array.replicate 51 (.string ⟨#[]⟩)) 9)) := by
  kernel_rfl
theorem strs51 (W : World) : StrsAt (W.alloc (.cells (Array.replicate 51 (.string ⟨#[]⟩)) 9)) (some ⟨W.heap.size, 0, none⟩) (List.replicate 51 ⟨#[]⟩) := fun j hj => by
  have hj : j < 51 := by simpa using hj
  exact ⟨_, 0, rfl, by simp, by rw [List.getElem_replicate, Nat.zero_add]; simp [hj]⟩
theorem one_play {s : ByteArray} {c : Cmd} {n : List Int} (h : parseL s.data.toList = some (c, n)) : afterL [s] = (if errL BSt.begun c n = 0 then nxtC BSt.begun c n else BSt.begun) ∧ playE BSt.begun [s] = [errL BSt.begun c n] := by
  have hp : parseF s = some (c, n) := by rw [parseF_eq]; exact h
  exact ⟨lineS_of hp, by show [lineE BSt.begun s] = _; rw [lineE_of hp]⟩
theorem nothing_all : exposedE [] = 7 ∧ exposedL [] = [] ∧ copiesE [] = 7 ∧ spansL [] = [] ∧ sureL [] = [] ∧ owedE [] = 7 ∧ owedL [] = [] ∧ faultL [] = 0 := ⟨rfl, rfl, rfl, rfl, rfl, rfl, rfl, rfl⟩
theorem nothing_report : reportF [] = [101, 120, 112, 111, 115, 101, 100, 10, 115, 112, 97, 110, 115, 10, 115, 117, 114, 101, 10, 111, 119, 101, 100, 10] := by
  have h := nothing_all
  unfold reportF wordsR
  simp only [h.2.1, h.2.2.2.1, h.2.2.2.2.1, h.2.2.2.2.2.2.1, List.map_nil]
  decide +kernel
theorem send_none : copiesE [⟨#[115, 101, 110, 100, 32, 51]⟩] = 7 ∧ spansL [⟨#[115, 101, 110, 100, 32, 51]⟩] = [] ∧ sureL [⟨#[115, 101, 110, 100, 32, 51]⟩] = [] := by
  have h := (one_play (s := ⟨#[115, 101, 110, 100, 32, 51]⟩) (c := .send) (n := [3]) (by decide +kernel)).1
  have hr : (afterL [⟨#[115, 101, 110, 100, 32, 51]⟩]).post.routes = [] := by rw [h]; split <;> rfl
  have e : copiesE [⟨#[115, 101, 110, 100, 32, 51]⟩] = 7 := by unfold copiesE; rw [if_neg (by decide +kernel), if_pos (.inr hr)]
  refine ⟨e, ?_, ?_⟩
  · unfold spansL; rw [e]; rfl
  · unfold sureL; rw [e]; rfl
theorem rate_none : owedE [⟨#[114, 97, 116, 101, 32, 49, 32, 49]⟩] = 7 ∧ owedL [⟨#[114, 97, 116, 101, 32, 49, 32, 49]⟩] = [] := by
  have h := (one_play (s := ⟨#[114, 97, 116, 101, 32, 49, 32, 49]⟩) (c := .rate) (n := [1, 1]) (by decide +kernel)).1
  have hr : (afterL [⟨#[114, 97, 116, 101, 32, 49, 32, 49]⟩]).ds = [] := by rw [h]; split <;> rfl
  have e : owedE [⟨#[114, 97, 116, 101, 32, 49, 32, 49]⟩] = 7 := by unfold owedE; rw [if_neg (by decide +kernel), if_pos hr]
  refine ⟨e, ?_⟩
  unfold owedL; rw [e]; rfl
theorem key_none : playE BSt.begun [⟨#[107, 101, 121, 32, 49, 32, 48, 32, 48]⟩] = [8] := by
  rw [(one_play (s := ⟨#[107, 101, 121, 32, 49, 32, 48, 32, 48]⟩) (c := .key) (n := [1, 0, 0]) (by decide +kernel)).2]
  rfl
theorem Copies_as {E : Int} {X : List (Int × Int)} {Y : List Int} (a : Option Addr) (c n : Nat) (l : List ByteArray) (w : World) (hE : copiesE l = E) (hX : spansL l = X) (hY : sureL l = Y) (en : l.length = n) (hl : StrsAt w a l) (h : l.length ≤ 9223372036854775807) (hv : Vars w) :
    Calls Tryz.prog 29 #[.slice a n c] w fun e w' => CopPost E X Y e w' ∧ Below w.heap.size w w' := by
  subst en hE hX hY; exact Copies_any a c l w hl h hv
theorem Report_ok (r : List UInt8) (a : Option Addr) (c n : Nat) (l : List ByteArray) (w : World) (h0 : faultL l = 0) (hr : reportF l = r) (en : l.length = n) (hl : StrsAt w a l) (h : l.length ≤ 9223372036854775807) (hv : Vars w) :
    Calls Tryz.prog 52 #[.slice a n c] w fun e w' => e = .returned (.tuple #[.string ⟨r.toArray⟩, .int .i64 0]) ∧ Below w.heap.size w w' := by
  subst en hr
  refine (Report_any a c l w hl h hv).mono ?_
  rintro e w' ⟨⟨_, rfl⟩ | ⟨h3, _⟩, b⟩
  · exact ⟨rfl, b⟩
  · rw [h0] at h3; cases h3
theorem Report_bad (a : Option Addr) (c n : Nat) (l : List ByteArray) (w : World) (h0 : faultL l = 3) (en : l.length = n) (hl : StrsAt w a l) (h : l.length ≤ 9223372036854775807) (hv : Vars w) :
    Calls Tryz.prog 52 #[.slice a n c] w fun e w' => e = .returned (.tuple #[.string ⟨#[]⟩, .int .i64 3]) ∧ Below w.heap.size w w' := by
  subst en
  refine (Report_any a c l w hl h hv).mono ?_
  rintro e w' ⟨⟨h3, _⟩ | ⟨_, rfl⟩, b⟩
  · rw [h0] at h3; cases h3
  · exact ⟨rfl, b⟩
set_option maxRecDepth 100000 in
set_option maxHeartbeats 20000000 in
theorem bookNames_walk (w : World) (hv : Vars w) : Calls Tryz.prog 9 #[] w fun e w' => e = .returned (.bool true) ∧ Below w.heap.size w w' := by
  have N := nothing_all
  have H := Lib.hid N
  clear N
  go_enter Tryz.func9, Tryz.ntmps9
  go_wp2_with fail
  go_at_call 45
  refine (Exposed_as none 0 0 [] w H.out.1 H.out.2.1 rfl (strs_nil w _) (by simp) hv).mono ?_
  rintro e W1 ⟨⟨a1, c1, rfl, _⟩, t1⟩
  have b2 : Below W1.heap.size W1 (W1.alloc (.cells #[.string ⟨#[115, 101, 110, 100, 32, 51]⟩] 9)) := Joins.below_alloc1 _ _
  have t2 := t1.trans (b2.mono t1.size)
  go_wp2_with fail
  go_at_call 29
  refine (Copies_as (some ⟨W1.heap.size, 0, none⟩) 1 1 _ _ send_none.1 send_none.2.1 send_none.2.2 rfl (lit_strs1 W1 _) (by simp) (hv.below t2)).mono ?_
  rintro e W3 ⟨⟨a3, c3, d3, e3, rfl, _, _⟩, b3⟩
  have t3 := t2.trans (b3.mono t2.size)
  clear b2 t2 b3 t1
  have b4 : Below W3.heap.size W3 (W3.alloc (.cells #[.string ⟨#[114, 97, 116, 101, 32, 49, 32, 49]⟩] 9)) := Joins.below_alloc1 _ _
  have t4 := t3.trans (b4.mono t3.size)
  go_wp2_with fail
  go_at_call 50
  refine (Owed_as (some ⟨W3.heap.size, 0, none⟩) 1 1 _ _ rate_none.1 rate_none.2 rfl (lit_strs1 W3 _) (by simp) (hv.below t4)).mono ?_
  rintro e W5 ⟨⟨a5, c5, rfl, _⟩, b5⟩
  have t5 := t4.trans (b5.mono t4.size)
  clear b4 t4 b5 t3
  go_wp2_with fail
  go_at_call 52
  refine (Report_ok _ none 0 0 [] W5 H.out.2.2.2.2.2.2.2 nothing_report rfl (strs_nil W5 _) (by simp) (hv.below t5)).mono ?_
  rintro e W6 ⟨rfl, b6⟩
  have t6 := t5.trans (b6.mono t5.size)
  clear b6 t5
  have mk := info_str51 W6
  have b7 : Below W6.heap.size W6 (W6.alloc (.cells (Array.replicate 51 (.string ⟨#[]⟩)) 9)) := Joins.below_alloc1 _ _
  have s7 := strs51 W6
  generalize hG : W6.alloc (.cells (Array.replicate 51 (.string ⟨#[]⟩)) 9) = W7 at mk b7 s7
  clear hG
  have t7 := t6.trans (b7.mono t6.size)
  go_wp2_with fail
  go_at_call 52
  refine (Report_bad (some ⟨W6.heap.size, 0, none⟩) 51 51 _ W7 (by decide +kernel) (by simp) s7 (by simp) (hv.below t7)).mono ?_
  rintro e W8 ⟨rfl, b8⟩
  have t8 := t7.trans (b8.mono t7.size)
  clear b7 s7 mk t7 b8 t6
  have b9 : Below W8.heap.size W8 (W8.alloc (.cells #[.string ⟨#[107, 101, 121, 32, 49, 32, 48, 32, 48]⟩] 9)) := Joins.below_alloc1 _ _
  have t9 := t8.trans (b9.mono t8.size)
  have h9 : W8.heap.size < (W8.alloc (.cells #[.string ⟨#[107, 101, 121, 32, 49, 32, 48, 32, 48]⟩] 9)).heap.size := by simp
  go_wp2_with fail
  go_at_call 28
  refine (play_nm _ _ W8.heap.size (some ⟨W8.heap.size, 0, none⟩) 1 1 _ _ rfl key_none rfl (by decide +kernel) (lit_strs1 W8 _) (hv.below t9) h9).mono ?_
  rintro e W10 ⟨⟨A, a10, c10, rfl, _, h10⟩, b10⟩
  have t10 := t9.trans (b10.mono t9.size)
  clear b9 t9 h9 t8 b10
  go_upto_region 7 with fail
  generalize afterL [⟨#[107, 101, 121, 32, 49, 32, 48, 32, 48]⟩] = S
  obtain ⟨V, hV⟩ : ∃ x : World, x = W10.alloc (.cells (stCells S A) 57) := ⟨_, rfl⟩
  have bv : Below W10.heap.size W10 V := by rw [hV]; exact Joins.below_alloc1 _ _
  change Code.wp _ _ _ _ (W10.alloc (.cells (stCells S A) 57))
  rw [← hV]
  clear hV
  have u0 := t10.trans (bv.mono t10.size)
  obtain ⟨b, f, rfl, lb, hc⟩ := (h10.below bv) 0 (by simp)
  simp at hc
  clear h10 bv t10
  go_wp2_with fail
  go_at_call 54
  refine (errorOf_any ⟨#[98, 111, 111, 107, 32, 49, 53, 32, 49, 48]⟩ 2 V (by decide) (hv.below u0) nmE_0).mono ?_
  rintro e U0 ⟨rfl, b1⟩
  have u1 := u0.trans (b1.mono u0.size)
  clear b1 u0 lb hc
  go_wp2_with fail
  go_at_call 54
  refine (errorOf_any ⟨#[98, 111, 111, 107, 32, 49, 51, 32, 49, 52]⟩ 2 U0 (by decide) (hv.below u1) nmE_1).mono ?_
  rintro e U1 ⟨rfl, b1⟩
  have u2 := u1.trans (b1.mono u1.size)
  clear b1 u1
  go_wp2_with fail
  go_at_call 54
  refine (errorOf_any ⟨#[98, 111, 111, 107, 32, 49, 55, 32, 49, 55]⟩ 0 U1 (by decide) (hv.below u2) nmE_2).mono ?_
  rintro e U2 ⟨rfl, b1⟩
  have u3 := u2.trans (b1.mono u2.size)
  clear b1 u2
  go_wp2_with fail
  go_at_call 54
  refine (errorOf_any ⟨#[107, 101, 121, 32, 49, 51, 32, 48, 32, 48]⟩ 2 U2 (by decide) (hv.below u3) nmE_3).mono ?_
  rintro e U3 ⟨rfl, b1⟩
  have u4 := u3.trans (b1.mono u3.size)
  clear b1 u3
  go_wp2_with fail
  go_at_call 54
  refine (errorOf_any ⟨#[107, 101, 121, 32, 49, 50, 32, 49, 50, 32, 49, 50]⟩ 0 U3 (by decide) (hv.below u4) nmE_4).mono ?_
  rintro e U4 ⟨rfl, b1⟩
  have u5 := u4.trans (b1.mono u4.size)
  clear b1 u4
  go_wp2_with fail
  go_at_call 54
  refine (errorOf_any ⟨#[100, 97, 121, 32, 50]⟩ 7 U4 (by decide) (hv.below u5) nmE_5).mono ?_
  rintro e U5 ⟨rfl, b1⟩
  have u6 := u5.trans (b1.mono u5.size)
  clear b1 u5
  go_wp2_with fail
  go_at_call 54
  refine (errorOf_any ⟨#[100, 97, 121, 32, 49]⟩ 0 U5 (by decide) (hv.below u6) nmE_6).mono ?_
  rintro e U6 ⟨rfl, b1⟩
  have u7 := u6.trans (b1.mono u6.size)
  clear b1 u6
  go_wp2_with fail
  go_at_call 54
  refine (errorOf_any ⟨#[108, 111, 115, 116, 32, 48, 32, 51]⟩ 7 U6 (by decide) (hv.below u7) nmE_7).mono ?_
  rintro e U7 ⟨rfl, b1⟩
  have u8 := u7.trans (b1.mono u7.size)
  clear b1 u7
  go_wp2_with fail
  go_at_call 54
  refine (errorOf_any ⟨#[102, 111, 117, 110, 100, 32, 48]⟩ 0 U7 (by decide) (hv.below u8) nmE_8).mono ?_
  rintro e U8 ⟨rfl, b1⟩
  have u9 := u8.trans (b1.mono u8.size)
  clear b1 u8
  go_wp2_with fail
  go_at_call 54
  refine (errorOf_any ⟨#[102, 111, 117, 110, 100, 32, 49]⟩ 7 U8 (by decide) (hv.below u9) nmE_9).mono ?_
  rintro e U9 ⟨rfl, b1⟩
  have u10 := u9.trans (b1.mono u9.size)
  clear b1 u9
  go_wp2_with fail
  go_at_call 54
  refine (errorOf_any ⟨#[115, 101, 110, 100, 32, 51, 49]⟩ 2 U9 (by decide) (hv.below u10) nmE_10).mono ?_
  rintro e U10 ⟨rfl, b1⟩
  have u11 := u10.trans (b1.mono u10.size)
  clear b1 u10
  go_wp2_with fail
  go_at_call 54
  refine (errorOf_any ⟨#[115, 101, 110, 100, 32, 49]⟩ 8 U10 (by decide) (hv.below u11) nmE_11).mono ?_
  rintro e U11 ⟨rfl, b1⟩
  have u12 := u11.trans (b1.mono u11.size)
  clear b1 u11
  go_wp2_with fail
  go_at_call 54
  refine (errorOf_any ⟨#[115, 101, 110, 100, 32, 51]⟩ 0 U11 (by decide) (hv.below u12) nmE_12).mono ?_
  rintro e U12 ⟨rfl, b1⟩
  have u13 := u12.trans (b1.mono u12.size)
  clear b1 u12
  go_wp2_with fail
  go_at_call 54
  refine (errorOf_any ⟨#[114, 111, 117, 116, 101, 32, 48, 32, 50, 32, 49]⟩ 2 U12 (by decide) (hv.below u13) nmE_13).mono ?_
  rintro e U13 ⟨rfl, b1⟩
  have u14 := u13.trans (b1.mono u13.size)
  clear b1 u13
  go_wp2_with fail
  go_at_call 54
  refine (errorOf_any ⟨#[114, 111, 117, 116, 101, 32, 48, 32, 48, 32, 55]⟩ 2 U13 (by decide) (hv.below u14) nmE_14).mono ?_
  rintro e U14 ⟨rfl, b1⟩
  have u15 := u14.trans (b1.mono u14.size)
  clear b1 u14
  go_wp2_with fail
  go_at_call 54
  refine (errorOf_any ⟨#[114, 111, 117, 116, 101, 32, 53, 32, 54, 32, 54]⟩ 0 U14 (by decide) (hv.below u15) nmE_15).mono ?_
  rintro e U15 ⟨rfl, b1⟩
  have u16 := u15.trans (b1.mono u15.size)
  clear b1 u15
  go_wp2_with fail
  go_at_call 54
  refine (errorOf_any ⟨#[114, 111, 117, 116, 101, 32, 48, 32, 48, 32, 48]⟩ 9 U15 (by decide) (hv.below u16) nmE_16).mono ?_
  rintro e U16 ⟨rfl, b1⟩
  have u17 := u16.trans (b1.mono u16.size)
  clear b1 u16
  go_wp2_with fail
  go_at_call 54
  refine (errorOf_any ⟨#[108, 101, 103, 32, 50, 32, 48, 32, 48]⟩ 7 U16 (by decide) (hv.below u17) nmE_17).mono ?_
  rintro e U17 ⟨rfl, b1⟩
  have u18 := u17.trans (b1.mono u17.size)
  clear b1 u17
  go_wp2_with fail
  go_at_call 54
  refine (errorOf_any ⟨#[108, 101, 103, 32, 48, 32, 48, 32, 48]⟩ 0 U17 (by decide) (hv.below u18) nmE_18).mono ?_
  rintro e U18 ⟨rfl, b1⟩
  have u19 := u18.trans (b1.mono u18.size)
  clear b1 u18
  go_wp2_with fail
  go_at_call 54
  refine (errorOf_any ⟨#[115, 108, 101, 101, 112, 32, 48, 32, 49, 32, 48, 32, 48]⟩ 7 U18 (by decide) (hv.below u19) nmE_19).mono ?_
  rintro e U19 ⟨rfl, b1⟩
  have u20 := u19.trans (b1.mono u19.size)
  clear b1 u19
  go_wp2_with fail
  go_at_call 54
  refine (errorOf_any ⟨#[115, 108, 101, 101, 112, 32, 48, 32, 48, 32, 48, 32, 51, 49]⟩ 2 U19 (by decide) (hv.below u20) nmE_20).mono ?_
  rintro e U20 ⟨rfl, b1⟩
  have u21 := u20.trans (b1.mono u20.size)
  clear b1 u20
  go_wp2_with fail
  go_at_call 54
  refine (errorOf_any ⟨#[119, 97, 105, 116, 32, 51, 49]⟩ 2 U20 (by decide) (hv.below u21) nmE_21).mono ?_
  rintro e U21 ⟨rfl, b1⟩
  have u22 := u21.trans (b1.mono u21.size)
  clear b1 u21
  go_wp2_with fail
  go_at_call 54
  refine (errorOf_any ⟨#[119, 97, 105, 116, 32, 54]⟩ 0 U21 (by decide) (hv.below u22) nmE_22).mono ?_
  rintro e U22 ⟨rfl, b1⟩
  have u23 := u22.trans (b1.mono u22.size)
  clear b1 u22
  go_wp2_with fail
  go_at_call 54
  refine (errorOf_any ⟨#[99, 97, 109, 101, 32, 50, 32, 49]⟩ 7 U22 (by decide) (hv.below u23) nmE_23).mono ?_
  rintro e U23 ⟨rfl, b1⟩
  have u24 := u23.trans (b1.mono u23.size)
  clear b1 u23
  go_wp2_with fail
  go_at_call 54
  refine (errorOf_any ⟨#[99, 97, 109, 101, 32, 49, 32, 49, 48, 49]⟩ 2 U23 (by decide) (hv.below u24) nmE_24).mono ?_
  rintro e U24 ⟨rfl, b1⟩
  have u25 := u24.trans (b1.mono u24.size)
  clear b1 u24
  go_wp2_with fail
  go_at_call 54
  refine (errorOf_any ⟨#[115, 107, 105, 112, 112, 101, 100, 32, 48, 32, 53]⟩ 0 U24 (by decide) (hv.below u25) nmE_25).mono ?_
  rintro e U25 ⟨rfl, b1⟩
  have u26 := u25.trans (b1.mono u25.size)
  clear b1 u25
  go_wp2_with fail
  go_at_call 54
  refine (errorOf_any ⟨#[115, 107, 105, 112, 112, 101, 100, 32, 49, 32, 55]⟩ 9 U25 (by decide) (hv.below u26) nmE_26).mono ?_
  rintro e U26 ⟨rfl, b1⟩
  have u27 := u26.trans (b1.mono u26.size)
  clear b1 u26
  go_wp2_with fail
  go_at_call 54
  refine (errorOf_any ⟨#[115, 116, 114, 105, 107, 101, 32, 48]⟩ 0 U26 (by decide) (hv.below u27) nmE_27).mono ?_
  rintro e U27 ⟨rfl, b1⟩
  have u28 := u27.trans (b1.mono u27.size)
  clear b1 u27
  go_wp2_with fail
  go_at_call 54
  refine (errorOf_any ⟨#[115, 116, 114, 105, 107, 101, 32, 49]⟩ 7 U27 (by decide) (hv.below u28) nmE_28).mono ?_
  rintro e U28 ⟨rfl, b1⟩
  have u29 := u28.trans (b1.mono u28.size)
  clear b1 u28
  go_wp2_with fail
  go_at_call 54
  refine (errorOf_any ⟨#[114, 97, 116, 101, 32, 50, 49, 32, 48]⟩ 2 U28 (by decide) (hv.below u29) nmE_29).mono ?_
  rintro e U29 ⟨rfl, b1⟩
  have u30 := u29.trans (b1.mono u29.size)
  clear b1 u29
  go_wp2_with fail
  go_at_call 54
  refine (errorOf_any ⟨#[114, 97, 116, 101, 32, 50, 48, 32, 49, 48, 48]⟩ 0 U29 (by decide) (hv.below u30) nmE_30).mono ?_
  rintro e U30 ⟨rfl, b1⟩
  have u31 := u30.trans (b1.mono u30.size)
  clear b1 u30
  go_wp2_with fail
  go_at_call 54
  refine (errorOf_any ⟨#[112, 97, 105, 100, 32, 55, 32, 49, 32, 49, 32, 49]⟩ 2 U30 (by decide) (hv.below u31) nmE_31).mono ?_
  rintro e U31 ⟨rfl, b1⟩
  have u32 := u31.trans (b1.mono u31.size)
  clear b1 u31
  go_wp2_with fail
  go_at_call 54
  refine (errorOf_any ⟨#[112, 97, 105, 100, 32, 54, 32, 49, 32, 50, 48, 48, 32, 54]⟩ 0 U31 (by decide) (hv.below u32) nmE_32).mono ?_
  rintro e U32 ⟨rfl, b1⟩
  have u33 := u32.trans (b1.mono u32.size)
  clear b1 u32
  go_wp2_with fail
  go_at_call 54
  refine (errorOf_any ⟨#[112, 97, 115, 115, 101, 100, 32, 50, 32, 49]⟩ 7 U32 (by decide) (hv.below u33) nmE_33).mono ?_
  rintro e U33 ⟨rfl, b1⟩
  have u34 := u33.trans (b1.mono u33.size)
  clear b1 u33
  go_wp2_with fail
  go_at_call 54
  refine (errorOf_any ⟨#[112, 97, 115, 115, 101, 100, 32, 49, 32, 55]⟩ 7 U33 (by decide) (hv.below u34) nmE_34).mono ?_
  rintro e U34 ⟨rfl, b1⟩
  have u35 := u34.trans (b1.mono u34.size)
  clear b1 u34
  go_wp2_with fail
  go_at_call 54
  refine (errorOf_any ⟨#[112, 97, 115, 115, 101, 100, 32, 49, 32, 50]⟩ 6 U34 (by decide) (hv.below u35) nmE_35).mono ?_
  rintro e U35 ⟨rfl, b1⟩
  have u36 := u35.trans (b1.mono u35.size)
  clear b1 u35
  go_wp2_with fail
  go_at_call 54
  refine (errorOf_any ⟨#[119, 111, 114, 100, 115, 32, 48, 32, 57, 32, 49, 52]⟩ 2 U35 (by decide) (hv.below u36) nmE_36).mono ?_
  rintro e U36 ⟨rfl, b1⟩
  have u37 := u36.trans (b1.mono u36.size)
  clear b1 u36
  go_wp2_with fail
  go_at_call 54
  refine (errorOf_any ⟨#[119, 111, 114, 100, 115, 32, 50, 32, 49, 32, 49]⟩ 7 U36 (by decide) (hv.below u37) nmE_37).mono ?_
  rintro e U37 ⟨rfl, b1⟩
  have u38 := u37.trans (b1.mono u37.size)
  clear b1 u37
  go_wp2_with fail
  go_at_call 54
  refine (errorOf_any ⟨#[119, 111, 114, 100, 115, 32, 48, 32, 49, 50, 32, 49, 49]⟩ 2 U37 (by decide) (hv.below u38) nmE_38).mono ?_
  rintro e U38 ⟨rfl, b1⟩
  have u39 := u38.trans (b1.mono u38.size)
  clear b1 u38
  go_wp2_with fail
  go_at_call 54
  refine (errorOf_any ⟨#[119, 97, 105, 116]⟩ 4 U38 (by decide) (hv.below u39) nmE_39).mono ?_
  rintro e U39 ⟨rfl, b1⟩
  have u40 := u39.trans (b1.mono u39.size)
  clear b1 u39
  go_wp2_with fail
  go_at_call 54
  refine (errorOf_any ⟨#[119, 97, 105, 116, 32, 48, 49]⟩ 4 U39 (by decide) (hv.below u40) nmE_40).mono ?_
  rintro e U40 ⟨rfl, b1⟩
  have u41 := u40.trans (b1.mono u40.size)
  clear b1 u40
  go_wp2_with fail
  go_at_call 54
  refine (errorOf_any ⟨#[119, 97, 105, 116, 32, 32, 49]⟩ 4 U40 (by decide) (hv.below u41) nmE_41).mono ?_
  rintro e U41 ⟨rfl, b1⟩
  have u42 := u41.trans (b1.mono u41.size)
  clear b1 u41
  go_wp2_with fail
  go_at_call 54
  refine (errorOf_any ⟨#[]⟩ 4 U41 (by decide) (hv.below u42) nmE_42).mono ?_
  rintro e U42 ⟨rfl, b1⟩
  have u43 := u42.trans (b1.mono u42.size)
  clear b1 u42
  go_wp2_with fail
  go_at_call 37
  refine (awake_any U42 (hv.below u43)).mono ?_
  rintro e Z ⟨rfl, bz⟩
  go_wp2_with fail
  go_ret
  exact ⟨rfl, u43.trans (bz.mono u43.size)⟩
end Go.Proofs.YticjeianiahppaaGreatDoor
