/- book, laws: errorOf; the errors of BookNames' lines -/
import Derived.Test.YticjeianiahppaaGreatDoorVh
import Derived.Test.YticjeianiahppaaGreatDoorDE
namespace Go.Proofs.YticjeianiahppaaGreatDoor
set_option linter.unusedVariables false
set_option linter.unusedSimpArgs false
set_option linter.unnecessarySimpa false
open Go.RowKit Go.Flow
def nmB : List ByteArray := [⟨#[98, 111, 111, 107, 32, 49, 53, 32, 49, 48]⟩, ⟨#[98, 111, 111, 107, 32, 49, 51, 32, 49, 52]⟩, ⟨#[98, 111, 111, 107, 32, 49, 55, 32, 49, 55]⟩, ⟨#[107, 101, 121, 32, 49, 51, 32, 48, 32, 48]⟩, ⟨#[107, 101, 121, 32, 49, 50, 32, 49, 50, 32, 49, 50]⟩, ⟨#[100, 97, 121, 32, 50]⟩, ⟨#[100, 97, 121, 32, 49]⟩, ⟨#[108, 111, 115, 116, 32, 48, 32, 51]⟩, ⟨#[102, 111, 117, 110, 100, 32, 48]⟩, ⟨#[102, 111, 117, 110, 100, 32, 49]⟩, ⟨#[115, 101, 110, 100, 32, 51, 49]⟩, ⟨#[115, 101, 110, 100, 32, 49]⟩, ⟨#[115, 101, 110, 100, 32, 51]⟩, ⟨#[114, 111, 117, 116, 101, 32, 48, 32, 50, 32, 49]⟩, ⟨#[114, 111, 117, 116, 101, 32, 48, 32, 48, 32, 55]⟩, ⟨#[114, 111, 117, 116, 101, 32, 53, 32, 54, 32, 54]⟩, ⟨#[114, 111, 117, 116, 101, 32, 48, 32, 48, 32, 48]⟩, ⟨#[108, 101, 103, 32, 50, 32, 48, 32, 48]⟩, ⟨#[108, 101, 103, 32, 48, 32, 48, 32, 48]⟩, ⟨#[115, 108, 101, 101, 112, 32, 48, 32, 49, 32, 48, 32, 48]⟩, ⟨#[115, 108, 101, 101, 112, 32, 48, 32, 48, 32, 48, 32, 51, 49]⟩, ⟨#[119, 97, 105, 116, 32, 51, 49]⟩, ⟨#[119, 97, 105, 116, 32, 54]⟩, ⟨#[99, 97, 109, 101, 32, 50, 32, 49]⟩, ⟨#[99, 97, 109, 101, 32, 49, 32, 49, 48, 49]⟩, ⟨#[115, 107, 105, 112, 112, 101, 100, 32, 48, 32, 53]⟩, ⟨#[115, 107, 105, 112, 112, 101, 100, 32, 49, 32, 55]⟩, ⟨#[115, 116, 114, 105, 107, 101, 32, 48]⟩, ⟨#[115, 116, 114, 105, 107, 101, 32, 49]⟩, ⟨#[114, 97, 116, 101, 32, 50, 49, 32, 48]⟩, ⟨#[114, 97, 116, 101, 32, 50, 48, 32, 49, 48, 48]⟩, ⟨#[112, 97, 105, 100, 32, 55, 32, 49, 32, 49, 32, 49]⟩, ⟨#[112, 97, 105, 100, 32, 54, 32, 49, 32, 50, 48, 48, 32, 54]⟩, ⟨#[112, 97, 115, 115, 101, 100, 32, 50, 32, 49]⟩, ⟨#[112, 97, 115, 115, 101, 100, 32, 49, 32, 55]⟩, ⟨#[112, 97, 115, 115, 101, 100, 32, 49, 32, 50]⟩, ⟨#[119, 111, 114, 100, 115, 32, 48, 32, 57, 32, 49, 52]⟩, ⟨#[119, 111, 114, 100, 115, 32, 50, 32, 49, 32, 49]⟩, ⟨#[119, 111, 114, 100, 115, 32, 48, 32, 49, 50, 32, 49, 49]⟩, ⟨#[119, 97, 105, 116]⟩, ⟨#[119, 97, 105, 116, 32, 48, 49]⟩, ⟨#[119, 97, 105, 116, 32, 32, 49]⟩, ⟨#[]⟩]
def nmO : List (Option (Cmd × List Int)) := [some (.book, [15, 10]), some (.book, [13, 14]), some (.book, [17, 17]), some (.key, [13, 0, 0]), some (.key, [12, 12, 12]), some (.day, [2]), some (.day, [1]), some (.lost, [0, 3]), some (.found, [0]), some (.found, [1]), some (.send, [31]), some (.send, [1]), some (.send, [3]), some (.route, [0, 2, 1]), some (.route, [0, 0, 7]), some (.route, [5, 6, 6]), some (.route, [0, 0, 0]), some (.leg, [2, 0, 0]), some (.leg, [0, 0, 0]), some (.sleep, [0, 1, 0, 0]), some (.sleep, [0, 0, 0, 31]), some (.wait, [31]), some (.wait, [6]), some (.came, [2, 1]), some (.came, [1, 101]), some (.skipped, [0, 5]), some (.skipped, [1, 7]), some (.strike, [0]), some (.strike, [1]), some (.rate, [21, 0]), some (.rate, [20, 100]), some (.paid, [7, 1, 1, 1]), some (.paid, [6, 1, 200, 6]), some (.passed, [2, 1]), some (.passed, [1, 7]), some (.passed, [1, 2]), some (.words, [0, 9, 14]), some (.words, [2, 1, 1]), some (.words, [0, 12, 11]), none, none, none, none]
def nmV : List Int := [2, 2, 0, 2, 0, 7, 0, 7, 0, 7, 2, 8, 0, 2, 2, 0, 9, 7, 0, 7, 2, 2, 0, 7, 2, 0, 9, 0, 7, 2, 0, 2, 0, 7, 7, 6, 2, 7, 2, 4, 4, 4, 4]
theorem nm_parse : nmB.map parseF = nmO := by
  have h : ∀ l : List ByteArray, l.map parseF = l.map fun s => parseL s.data.toList := fun l => List.map_congr_left fun s _ => parseF_eq s
  rw [h]
  decide +kernel
def nmE : Option (Cmd × List Int) → Int
  | none => 4
  | some x => errM yearS x.1 x.2
theorem nm_line (s : ByteArray) : lineE yearS s = nmE (parseF s) := by
  unfold lineE nmE
  cases parseF s with
  | none => rfl
  | some x => exact errM_eq _ _ _
theorem nm_run : nmO.map nmE = nmV := by decide +kernel
theorem nm_all : nmB.map (lineE yearS) = nmV := by
  rw [← nm_run, ← nm_parse, List.map_map]
  exact List.map_congr_left fun s _ => nm_line s
/-- What Play returns of a session that can be played. -/
theorem play_nm (S : BSt) (R : List Int) (bz : Nat) (a : Option Addr) (c n : Nat) (l : List ByteArray) (w : World) (hS : afterL l = S) (hR : playE BSt.begun l = R) (en : l.length = n) (h0 : faultL l = 0) (hl : StrsAt w a l) (hv : Vars w) (hbz : bz < w.heap.size) :
    Calls Tryz.prog 28 #[.slice a n c] w fun e w' => (∃ A ae ce, e = .returned (.tuple #[.agg (stCells S A), .slice ae n ce, .int .i64 0]) ∧ Lists w' S A ∧ IntsAt w' ae R) ∧ Below w.heap.size w w' := by
  subst en hS hR
  have h50 := (fault_ok h0).1
  refine (Play_any bz a c l w hl (by omega) hv hbz).mono ?_
  rintro e w' ⟨⟨_, A, ae, ce, rfl, hL, he⟩ | ⟨h3, _⟩, b⟩
  · exact ⟨⟨A, ae, ce, rfl, hL.shows (shows_outL _ _), he⟩, b⟩
  · rw [h0] at h3; cases h3
theorem lit_strs1 (w : World) (s : ByteArray) : StrsAt (w.alloc (.cells #[.string s] 9)) (some ⟨w.heap.size, 0, none⟩) [s] := fun j hj => by
  obtain rfl : j = 0 := by simpa using hj
  exact ⟨_, 0, rfl, by simp, by simp⟩
theorem year_fault0 : faultL yearB = 0 := by decide +kernel
set_option maxRecDepth 100000 in
set_option maxHeartbeats 4000000 in
theorem errorOf_any (s : ByteArray) (v : Int) (w : World) (hs : s.size ≤ 80) (hv : Vars w) (h : lineE yearS s = v) :
    Calls Tryz.prog 54 #[.string s] w fun e w' => e = .returned (.int .i64 v) ∧ Below w.heap.size w w' := by
  have h0 : faultL (yearB ++ [s]) = 0 := fault_more year_fault0 (by show 20 + 1 ≤ 50; decide) (by simpa using hs)
  obtain ⟨M, hM⟩ : ∃ M, M = yearB ++ [s] := ⟨_, rfl⟩
  have hS : afterL M = lineS yearS s := by rw [hM, after_snoc]; show lineS (playS BSt.begun yearB) s = _; rw [year_play.1]
  obtain ⟨R, hR⟩ : ∃ R, playE BSt.begun M = R := ⟨_, rfl⟩
  have hRv : R.getD 20 0 = v := by
    rw [← hR, hM, playE_app, year_play.1, year_play.2, ← h]; rfl
  have hRl := Lib.hid (show R.length = 21 by rw [← hR, playE_len, hM]; rfl)
  have hMl := Lib.hid (show M.length = 21 by rw [hM]; rfl)
  have py := fun (W : World) (b : Below w.heap.size w W) bz a c hb h => play_nm (lineS yearS s) R bz a c 21 M W hS hR hMl.out (by rw [hM]; exact h0) h (hv.below b) hb
  replace hM := Lib.hid hM
  clear hS hR h0 h
  have b1 : Below w.heap.size w (w.alloc (.cells #[.string s] 9)) := Joins.below_alloc1 _ _
  have yr := year_any (some ⟨w.heap.size, 0, none⟩) 1 [s] _ (lit_strs1 w s) (fun h => by cases h) (by simp)
  go_enter Tryz.func54, Tryz.ntmps54
  go_wp2_with fail
  go_at_call 97
  refine yr.mono ?_
  rintro e W2 ⟨⟨a2, c2, rfl, o2⟩, b2⟩
  have o3 : OwnL 9 1 (w.alloc (.cells #[.string s] 9)).heap.size W2 a2 c2 21 (M.map Value.string) := by rw [hM.out]; exact o2
  have t2 := b1.trans (b2.mono b1.size)
  have hlt : w.heap.size < W2.heap.size := by have := b2.size; simp at this; omega
  clear yr o2 b1 b2
  go_wp2_with fail
  go_at_call 28
  refine (py W2 t2 w.heap.size a2 c2 hlt o3.strs).mono ?_
  rintro e W3 ⟨⟨A, a3, c3, rfl, _, h3⟩, b3⟩
  have t3 := t2.trans (b3.mono t2.size)
  clear py b3 o3 t2 hlt
  go_upto_region 2 with fail
  obtain ⟨V, hV⟩ : ∃ x : World, x = W3.alloc (.cells (stCells (lineS yearS s) A) 57) := ⟨_, rfl⟩
  have bv : Below W3.heap.size W3 V := by rw [hV]; exact Joins.below_alloc1 _ _
  change Code.wp _ _ _ _ (W3.alloc (.cells (stCells (lineS yearS s) A) 57))
  rw [← hV]
  clear hV
  have tv := t3.trans (bv.mono t3.size)
  obtain ⟨b, f, rfl, lb, hc⟩ := (h3.below bv) 20 (by have := hRl.out; omega)
  rw [hRv] at hc
  clear h3 bv t3 hRv
  go_wp2_with fail
  go_ret
  exact ⟨rfl, tv⟩
theorem nmE_0 : lineE yearS ⟨#[98, 111, 111, 107, 32, 49, 53, 32, 49, 48]⟩ = 2 := congrArg (fun l => l.getD 0 0) nm_all
theorem nmE_1 : lineE yearS ⟨#[98, 111, 111, 107, 32, 49, 51, 32, 49, 52]⟩ = 2 := congrArg (fun l => l.getD 1 0) nm_all
theorem nmE_2 : lineE yearS ⟨#[98, 111, 111, 107, 32, 49, 55, 32, 49, 55]⟩ = 0 := congrArg (fun l => l.getD 2 0) nm_all
theorem nmE_3 : lineE yearS ⟨#[107, 101, 121, 32, 49, 51, 32, 48, 32, 48]⟩ = 2 := congrArg (fun l => l.getD 3 0) nm_all
theorem nmE_4 : lineE yearS ⟨#[107, 101, 121, 32, 49, 50, 32, 49, 50, 32, 49, 50]⟩ = 0 := congrArg (fun l => l.getD 4 0) nm_all
theorem nmE_5 : lineE yearS ⟨#[100, 97, 121, 32, 50]⟩ = 7 := congrArg (fun l => l.getD 5 0) nm_all
theorem nmE_6 : lineE yearS ⟨#[100, 97, 121, 32, 49]⟩ = 0 := congrArg (fun l => l.getD 6 0) nm_all
theorem nmE_7 : lineE yearS ⟨#[108, 111, 115, 116, 32, 48, 32, 51]⟩ = 7 := congrArg (fun l => l.getD 7 0) nm_all
theorem nmE_8 : lineE yearS ⟨#[102, 111, 117, 110, 100, 32, 48]⟩ = 0 := congrArg (fun l => l.getD 8 0) nm_all
theorem nmE_9 : lineE yearS ⟨#[102, 111, 117, 110, 100, 32, 49]⟩ = 7 := congrArg (fun l => l.getD 9 0) nm_all
theorem nmE_10 : lineE yearS ⟨#[115, 101, 110, 100, 32, 51, 49]⟩ = 2 := congrArg (fun l => l.getD 10 0) nm_all
theorem nmE_11 : lineE yearS ⟨#[115, 101, 110, 100, 32, 49]⟩ = 8 := congrArg (fun l => l.getD 11 0) nm_all
theorem nmE_12 : lineE yearS ⟨#[115, 101, 110, 100, 32, 51]⟩ = 0 := congrArg (fun l => l.getD 12 0) nm_all
theorem nmE_13 : lineE yearS ⟨#[114, 111, 117, 116, 101, 32, 48, 32, 50, 32, 49]⟩ = 2 := congrArg (fun l => l.getD 13 0) nm_all
theorem nmE_14 : lineE yearS ⟨#[114, 111, 117, 116, 101, 32, 48, 32, 48, 32, 55]⟩ = 2 := congrArg (fun l => l.getD 14 0) nm_all
theorem nmE_15 : lineE yearS ⟨#[114, 111, 117, 116, 101, 32, 53, 32, 54, 32, 54]⟩ = 0 := congrArg (fun l => l.getD 15 0) nm_all
theorem nmE_16 : lineE yearS ⟨#[114, 111, 117, 116, 101, 32, 48, 32, 48, 32, 48]⟩ = 9 := congrArg (fun l => l.getD 16 0) nm_all
theorem nmE_17 : lineE yearS ⟨#[108, 101, 103, 32, 50, 32, 48, 32, 48]⟩ = 7 := congrArg (fun l => l.getD 17 0) nm_all
theorem nmE_18 : lineE yearS ⟨#[108, 101, 103, 32, 48, 32, 48, 32, 48]⟩ = 0 := congrArg (fun l => l.getD 18 0) nm_all
theorem nmE_19 : lineE yearS ⟨#[115, 108, 101, 101, 112, 32, 48, 32, 49, 32, 48, 32, 48]⟩ = 7 := congrArg (fun l => l.getD 19 0) nm_all
theorem nmE_20 : lineE yearS ⟨#[115, 108, 101, 101, 112, 32, 48, 32, 48, 32, 48, 32, 51, 49]⟩ = 2 := congrArg (fun l => l.getD 20 0) nm_all
theorem nmE_21 : lineE yearS ⟨#[119, 97, 105, 116, 32, 51, 49]⟩ = 2 := congrArg (fun l => l.getD 21 0) nm_all
theorem nmE_22 : lineE yearS ⟨#[119, 97, 105, 116, 32, 54]⟩ = 0 := congrArg (fun l => l.getD 22 0) nm_all
theorem nmE_23 : lineE yearS ⟨#[99, 97, 109, 101, 32, 50, 32, 49]⟩ = 7 := congrArg (fun l => l.getD 23 0) nm_all
theorem nmE_24 : lineE yearS ⟨#[99, 97, 109, 101, 32, 49, 32, 49, 48, 49]⟩ = 2 := congrArg (fun l => l.getD 24 0) nm_all
theorem nmE_25 : lineE yearS ⟨#[115, 107, 105, 112, 112, 101, 100, 32, 48, 32, 53]⟩ = 0 := congrArg (fun l => l.getD 25 0) nm_all
theorem nmE_26 : lineE yearS ⟨#[115, 107, 105, 112, 112, 101, 100, 32, 49, 32, 55]⟩ = 9 := congrArg (fun l => l.getD 26 0) nm_all
theorem nmE_27 : lineE yearS ⟨#[115, 116, 114, 105, 107, 101, 32, 48]⟩ = 0 := congrArg (fun l => l.getD 27 0) nm_all
theorem nmE_28 : lineE yearS ⟨#[115, 116, 114, 105, 107, 101, 32, 49]⟩ = 7 := congrArg (fun l => l.getD 28 0) nm_all
theorem nmE_29 : lineE yearS ⟨#[114, 97, 116, 101, 32, 50, 49, 32, 48]⟩ = 2 := congrArg (fun l => l.getD 29 0) nm_all
theorem nmE_30 : lineE yearS ⟨#[114, 97, 116, 101, 32, 50, 48, 32, 49, 48, 48]⟩ = 0 := congrArg (fun l => l.getD 30 0) nm_all
theorem nmE_31 : lineE yearS ⟨#[112, 97, 105, 100, 32, 55, 32, 49, 32, 49, 32, 49]⟩ = 2 := congrArg (fun l => l.getD 31 0) nm_all
theorem nmE_32 : lineE yearS ⟨#[112, 97, 105, 100, 32, 54, 32, 49, 32, 50, 48, 48, 32, 54]⟩ = 0 := congrArg (fun l => l.getD 32 0) nm_all
theorem nmE_33 : lineE yearS ⟨#[112, 97, 115, 115, 101, 100, 32, 50, 32, 49]⟩ = 7 := congrArg (fun l => l.getD 33 0) nm_all
theorem nmE_34 : lineE yearS ⟨#[112, 97, 115, 115, 101, 100, 32, 49, 32, 55]⟩ = 7 := congrArg (fun l => l.getD 34 0) nm_all
theorem nmE_35 : lineE yearS ⟨#[112, 97, 115, 115, 101, 100, 32, 49, 32, 50]⟩ = 6 := congrArg (fun l => l.getD 35 0) nm_all
theorem nmE_36 : lineE yearS ⟨#[119, 111, 114, 100, 115, 32, 48, 32, 57, 32, 49, 52]⟩ = 2 := congrArg (fun l => l.getD 36 0) nm_all
theorem nmE_37 : lineE yearS ⟨#[119, 111, 114, 100, 115, 32, 50, 32, 49, 32, 49]⟩ = 7 := congrArg (fun l => l.getD 37 0) nm_all
theorem nmE_38 : lineE yearS ⟨#[119, 111, 114, 100, 115, 32, 48, 32, 49, 50, 32, 49, 49]⟩ = 2 := congrArg (fun l => l.getD 38 0) nm_all
theorem nmE_39 : lineE yearS ⟨#[119, 97, 105, 116]⟩ = 4 := congrArg (fun l => l.getD 39 0) nm_all
theorem nmE_40 : lineE yearS ⟨#[119, 97, 105, 116, 32, 48, 49]⟩ = 4 := congrArg (fun l => l.getD 40 0) nm_all
theorem nmE_41 : lineE yearS ⟨#[119, 97, 105, 116, 32, 32, 49]⟩ = 4 := congrArg (fun l => l.getD 41 0) nm_all
theorem nmE_42 : lineE yearS ⟨#[]⟩ = 4 := congrArg (fun l => l.getD 42 0) nm_all
end Go.Proofs.YticjeianiahppaaGreatDoor
