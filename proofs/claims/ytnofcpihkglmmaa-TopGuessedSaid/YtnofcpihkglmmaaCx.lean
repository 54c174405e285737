/- cipher: the keys that are yielded are in range -/
import Derived.Test.YtnofcpihkglmmaaCr
namespace Go.Proofs.Ytnofcpihkglmmaa
set_option linter.unusedVariables false
set_option linter.unusedSimpArgs false
set_option linter.unnecessarySimpa false
open Go.RowKit Go.Flow Go.Shelf
attribute [local go_sem] Oper.semAt_some

/-- Keys in range. -/
abbrev KV (s : Int) := { k : K3 // (1 ≤ k.1 ∧ k.1 < s) ∧ (0 ≤ k.2.1 ∧ k.2.1 < s) ∧ (0 ≤ k.2.2 ∧ k.2.2 < s) }
set_option maxRecDepth 100000 in
set_option maxHeartbeats 4000000 in
theorem keysV_stops (n : Nat) (hn : 2 ≤ n) (bm Bb Bc Bg : Nat) (s wo : Int) (ak : Option Addr) (ks : List K3) (ck : Nat) (ad : Option Addr) (ds : List Int) (cd : Nat) (ac : Option Addr) (codes : List Int) (cc : Nat) (ag : Option Addr) (gs : List (Int × Int)) (cg : Nat) (w : World)
    (hB : BookAt w Bb s wo ak ks.length ck ad ds.length cd) (hC : w.cell? ⟨Bc, 0, none⟩ = some (.slice ac codes.length cc)) (hG : w.cell? ⟨Bg, 0, none⟩ = some (.slice ag gs.length cg)) (nb : Bb ≠ bm) (nc : Bc ≠ bm) (ng : Bg ≠ bm) (hbm : bm < w.heap.size)
    (hc : IntsN bm w ac codes) (hg : RecsN bm w ag gs) (s0 : 2 ≤ s) (s1 : s ≤ 41) (lc : codes.length ≤ 1000) (lg : gs.length ≤ 1000) (hco : codes.all (plainOk s) = true) (hgo : gs.all (guessOk s codes.length) = true) :
    SeqStopsK Fence.wide n Try.prog 57 #[.pointer (some ⟨Bb, 0, none⟩), .pointer (some ⟨Bc, 0, none⟩), .pointer (some ⟨Bg, 0, none⟩)] (fun x : KV s => encK x.1) (CK bm) (fun xs => xs.map (·.1) = keysN s codes gs) (fun _ => True) 1000000 w := fun l J Jx W hW hJ hJx hY h0 => by
  obtain ⟨J', hJd⟩ : ∃ J' : List K3 → World → Prop, ∀ pre W, J' pre W ↔ ∃ q : List (KV s), q.map (·.1) = pre ∧ J q W := ⟨fun pre W => ∃ q : List (KV s), q.map (·.1) = pre ∧ J q W, fun _ _ => Iff.rfl⟩
  have hJ' : AbidesFrom W.heap.size J' := fun p W1 W2 row h hg hr => by
    obtain ⟨q, hq, h2⟩ := (hJd _ _).1 h
    exact (hJd _ _).2 ⟨q, hq, hJ q W1 W2 row h2 hg hr⟩
  replace h0 : J' [] W := (hJd _ _).2 ⟨[], rfl, h0⟩
  have hB' := hB.below hW
  have hC' := below_cell hW hC
  have hG' := below_cell hW hG
  have hbm' : bm < W.heap.size := Nat.lt_of_lt_of_le hbm hW.size
  have hc' := hc.ck (CK.below hW)
  have hg' := hg.ck (CK.below hW)
  clear hW hB hC hG hbm hc hg
  have h1n : 1 ≤ n := by omega
  refine callsIn_of_wp Try.func57 rfl trivial ?_ rfl
  simp only [Try.ntmps57, List.size_toArray, List.length_cons, List.length_nil, Nat.reduceAdd, Nat.reduceSub, Array.replicate_succ, Array.replicate_zero, List.push_toArray, List.append_toArray, List.nil_append, List.cons_append]
  have hBc := hB'.c0
  obtain ⟨S, rfl⟩ := Int.eq_ofNat_of_zero_le (show 0 ≤ s by omega)
  gi_wp2
  gi_loopw [5, 6, 8, 9, 10, 14] (fun _ _ _ _ _ i wr => ∃ k1 : Nat, k1 + 1 ≤ S ∧ i = .int .i64 k1 ∧ J' (outN S codes gs k1) wr ∧ CK bm W wr) (fun _ _ _ _ _ i _ => S - 1 - (intOf i).toNat)
  case atStart => exact ⟨0, by omega, rfl, h0, CK.refl _ _⟩
  case round =>
    obtain ⟨k1, hk1, rfl, hJ1, hck1⟩ := hrel
    have q0 := (hB'.ck hck1 nb).c0
    have lB := cell_lt q0
    simp only at lB
    have ho1 := outN_len S codes gs (by omega) (by omega) k1
    by_cases hlt1 : k1 + 1 < S
    · have d1 : decide ((k1 : Int) < (S : Int) - 1) = true := by rw [decide_eq_true_eq]; omega
      obtain ⟨wo1, hwo1⟩ : ∃ x : World, x = wr := ⟨_, rfl⟩
      subst hwo1
      gi_wp2
      gi_loopw [6, 8, 9, 10, 19] (fun _ _ _ _ i wr => ∃ k2 : Nat, k2 ≤ S ∧ i = .int .i64 k2 ∧ J' (outN S codes gs k1 ++ midN S ((k1 : Int) + 1) codes gs k2) wr ∧ CK bm W wr) (fun _ _ _ _ i _ => S - (intOf i).toNat)
      case atStart => exact ⟨0, by omega, rfl, by simpa [midN] using hJ1, hck1⟩
      case round =>
        obtain ⟨k2, hk2, rfl, hJ2, hck2⟩ := hrel
        have ho2 := midN_len S ((k1 : Int) + 1) codes gs (by omega) (by omega) k2
        by_cases hlt2 : k2 < S
        · obtain ⟨wo2, hwo2⟩ : ∃ x : World, x = wr := ⟨_, rfl⟩
          subst hwo2
          obtain ⟨p0, p1, p2, p3⟩ := hB'.ck hck2 nb
          have pC := hck2.cell _ _ nc hC'
          have pG := hck2.cell _ _ ng hG'
          have lB2 := cell_lt p0
          have lC2 := cell_lt pC
          have lG2 := cell_lt pG
          simp only at lB2 lC2 lG2
          have hL := addsN_len S ((k1 : Int) + 1) k2 codes gs (by omega) (by omega)
          have hLm := addsN_mem S ((k1 : Int) + 1) k2 codes gs (by omega)
          have hadds := adds_any S wo ak ks ck ad ds cd ((k1 : Int) + 1) k2 ac codes cc ag gs cg wo2 (by omega) (by omega) lc lg (by omega) (by omega) (by omega) (by omega) (hc'.ck hck2).to (hg'.ck hck2).to hco hgo
          obtain ⟨L, hLL⟩ : ∃ L, addsN S ((k1 : Int) + 1) k2 codes gs = L := ⟨_, rfl⟩
          rw [hLL] at hL hLm hadds
          gi_wp2_with (refine ⟨trivial, ?_⟩; gi_at_call 58; refine (callsIn_wide.2 hadds).mono ?_; rintro e w3 ⟨aL, cL, rfl, own3, hb3⟩)
          have hJ3 := hJ' _ _ _ none hJ2 (grown_of_below hb3 none) (fun r e => by cases e)
          have hck3 := hck2.trans (CK.below hb3)
          have hbm3 : bm < wo2.heap.size := Nat.lt_of_lt_of_le hbm' hck2.size
          have hLN := own3.intsN hbm3
          gi_loopw [8, 9, 10, 31] (fun _ _ _ i wr => ∃ k3 : Nat, k3 ≤ L.length ∧ i = .int .i64 k3 ∧ J' (outN S codes gs k1 ++ midN S ((k1 : Int) + 1) codes gs k2 ++ innN S ((k1 : Int) + 1) k2 codes gs (L.take k3)) wr ∧ CK bm w3 wr) (fun _ _ _ i _ => L.length - (intOf i).toNat)
          case atStart => exact ⟨0, Nat.zero_le _, rfl, by simpa [innN] using hJ3, CK.refl _ _⟩
          case round =>
            obtain ⟨k3, hk3, rfl, hJ4, hck4⟩ := hrel
            have hckR := hck3.trans hck4
            have hBR := hB'.ck hckR nb
            have pCR := hckR.cell _ _ nc hC'
            have pGR := hckR.cell _ _ ng hG'
            have lBR := hBR.lt
            have lCR := cell_lt pCR
            have lGR := cell_lt pGR
            simp only at lCR lGR
            by_cases hlt3 : k3 < L.length
            · obtain ⟨b, off, haL, hbn, hbl, hcx⟩ := (hLN.ck hck4) k3 hlt3
              subst haL
              have hxm := hLm L[k3] (List.getElem_mem hlt3)
              have hsn := innN_take S ((k1 : Int) + 1) k2 codes gs L k3 hlt3
              have hcx' : wr.cell? ⟨b, off + k3, none⟩ = some (.int .i64 L[k3]) := by rw [hcx]; simp [hlt3]
              obtain ⟨x, hx⟩ : ∃ x, L[k3] = x := ⟨_, rfl⟩
              rw [hx] at hxm hsn hcx'
              clear hcx hx
              have hb5 : Below wr.heap.size wr (wr.alloc (.cells #[.int .i64 ((k1 : Int) + 1), .int .i64 x, .int .i64 k2] 57)) := (Below.refl _ _).alloc (Nat.le_refl _) _
              have hall := all_guess ag gs cg 59 #[] #[.pointer (some ⟨Bb, 0, none⟩), .pointer (some ⟨wr.heap.size, 0, none⟩), .pointer (some ⟨Bc, 0, none⟩)] (agreeOk S ((k1 : Int) + 1) x k2 codes) (wr.alloc (.cells #[.int .i64 ((k1 : Int) + 1), .int .i64 x, .int .i64 k2] 57))
                (by omega) ((hg'.ck hckR).to.below hb5) (enters Try.func59 (by kernel_rfl) rfl) (fun g hgm => agrees_meets S wo ak ks.length ck ad ds.length cd Bb wr.heap.size Bc ((k1 : Int) + 1) x k2 ac codes cc g _ (hBR.below hb5) (KeyAt.new wr _ _ _ _) (below_cell hb5 pCR) ((hc'.ck hckR).to.below hb5)
                  (by omega) (by omega) lc (by omega) (by omega) (by omega) (by omega) (by omega) (by omega) (List.all_eq_true.1 hgo g hgm))
              cases hag : gs.all (agreeOk S ((k1 : Int) + 1) x k2 codes)
              · rw [hag] at hall hsn
                have Hsn := Lib.hid hsn
                clear hag hsn
                gi_wp2_with (refine ⟨trivial, ?_⟩; gi_at_call 56; refine (callsIn_wide.2 hall).mono ?_; rintro e w6 ⟨rfl, hb6⟩; obtain ⟨y0, y1, y2⟩ := (KeyAt.new wr ((k1 : Int) + 1) x k2 57).below hb6; have ly := cell_lt y0; simp only at ly)
                refine ⟨fun _ h => (by cases h), ?_⟩
                gi_wp2
                have hb56 := hb5.trans (hb6.mono hb5.size)
                have hJ6 := hJ' _ _ _ none hJ4 (grown_of_below hb56 none) (fun r e => by cases e)
                go_roundw
                case rel => exact ⟨k3 + 1, by omega, by go_num, by rw [Hsn.out]; simpa using hJ6, hck4.trans (CK.below hb56)⟩
                case measure => simp [intOf]; omega
              · rw [hag] at hall hsn
                have Hsn := Lib.hid hsn
                clear hag hsn
                have HKV : Hid ((1 ≤ ((k1 : Int) + 1, x, (k2 : Int)).1 ∧ ((k1 : Int) + 1, x, (k2 : Int)).1 < (S : Int)) ∧ (0 ≤ ((k1 : Int) + 1, x, (k2 : Int)).2.1 ∧ ((k1 : Int) + 1, x, (k2 : Int)).2.1 < (S : Int)) ∧ (0 ≤ ((k1 : Int) + 1, x, (k2 : Int)).2.2 ∧ ((k1 : Int) + 1, x, (k2 : Int)).2.2 < (S : Int))) := Lib.hid (by dsimp only; omega)
                have hlen3 : (outN S codes gs k1 ++ midN S ((k1 : Int) + 1) codes gs k2 ++ innN S ((k1 : Int) + 1) k2 codes gs (L.take k3)).length < 1000000 := by
                  have h3 := innN_len S ((k1 : Int) + 1) k2 codes gs (L.take k3)
                  rw [List.length_take] at h3
                  rw [List.length_append, List.length_append]
                  omega
                gi_wp2_with (refine ⟨trivial, ?_⟩; gi_at_call 56; refine (callsIn_wide.2 hall).mono ?_; rintro e w6 ⟨rfl, hb6⟩; obtain ⟨y0, y1, y2⟩ := (KeyAt.new wr ((k1 : Int) + 1) x k2 57).below hb6; have ly := cell_lt y0; simp only at ly; skip)
                obtain ⟨q, hq, hJq⟩ := (hJd _ _).1 (hJ' _ _ _ none hJ4 (grown_of_below (hb5.trans (hb6.mono hb5.size)) none) (fun r e => by cases e))
                have hlq : q.length < 1000000 := by (rw [← List.length_map (f := fun y : KV S => y.1), hq]; exact hlen3)
                obtain ⟨fn, tmps, assign, body, hy, hR⟩ := hY q ⟨((k1 : Int) + 1, x, (k2 : Int)), HKV.out⟩ w6 hJq hlq
                dsimp only [encK] at hy
                have Hq := Lib.hid hq
                clear hq
                rw [hy, Oper.uponIn_round]
                refine ⟨fun _ => h1n, ?_⟩
                refine hR.mono ?_
                rintro e w7 (⟨rfl, hJ7, hk7⟩ | ⟨rfl, hJx7⟩)
                · gi_wp2
                  go_roundw
                  case rel => exact ⟨k3 + 1, by omega, by go_num, by rw [Hsn.out, ← List.append_assoc]; exact (hJd _ _).2 ⟨_, by rw [List.map_append, Hq.out]; rfl, hJ7⟩, (hck4.trans (CK.below (hb5.trans (hb6.mono hb5.size)))).trans hk7⟩
                  case measure => simp [intOf]; omega
                · gi_wp2
                  refine bodyPost_ret (results_none rfl _ _ _) rfl ?_
                  exact ⟨⟨_, rfl⟩, .inr ⟨_, trivial, hJx7⟩⟩
            · obtain rfl : k3 = L.length := by omega
              gi_wp2
              go_roundw
              case rel => exact ⟨k2 + 1, by omega, by go_num, by rw [midN_succ, hLL, ← List.append_assoc]; rw [List.take_length] at hJ4; exact hJ4, hckR⟩
              case measure => simp [intOf]; omega
        · obtain rfl : k2 = S := by omega
          gi_wp2
          go_roundw
          case rel => exact ⟨k1 + 1, by omega, by go_num, by rw [outN_succ, Int.toNat_natCast]; exact hJ2, hck2⟩
          case measure => simp [intOf]; omega
    · have hS : k1 = S - 1 := by omega
      gi_wp2
      go_end0
      obtain ⟨q, hq, hJ9⟩ := (hJd _ _).1 hJ1
      exact ⟨⟨_, rfl⟩, .inl ⟨q, by rw [hq]; unfold keysN; rw [show ((S : Int) - 1).toNat = k1 by omega], hJ9⟩⟩
end Go.Proofs.Ytnofcpihkglmmaa
