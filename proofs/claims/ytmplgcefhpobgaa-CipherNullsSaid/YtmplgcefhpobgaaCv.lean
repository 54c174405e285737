/- cipher: keys (the iterator) -/
import Derived.Test.YtmplgcefhpobgaaCu
import Derived.RangeFuncNested
import Derived.RangeFuncBound
import Derived.RangeFuncCalls
import Derived.RangeFuncLeaves
import Derived.Shelf.Abstract
import Derived.Shelf.RegionOpen
import Derived.OwnWalkIn
import Derived.TacticsInMore
import Derived.LoopNIn
import Derived.LoopIn
namespace Go.Proofs.Ytmplgcefhpobgaa
set_option linter.unusedVariables false
set_option linter.unusedSimpArgs false
set_option linter.unnecessarySimpa false
open Go.RowKit Go.Flow Go.Shelf
attribute [local go_sem] Oper.semAt_some

abbrev K3 := Int × Int × Int
def innN (s m st : Int) (codes : List Int) (gs : List (Int × Int)) (adds : List Int) : List K3 := (adds.filter fun a => gs.all (agreeOk s m a st codes)).map fun a => (m, a, st)
def midN (s m : Int) (codes : List Int) (gs : List (Int × Int)) (n : Nat) : List K3 := (List.range n).flatMap fun (st : Nat) => innN s m st codes gs (addsN s m st codes gs)
def outN (s : Int) (codes : List Int) (gs : List (Int × Int)) (n : Nat) : List K3 := (List.range n).flatMap fun (i : Nat) => midN s ((i : Int) + 1) codes gs s.toNat
def keysN (s : Int) (codes : List Int) (gs : List (Int × Int)) : List K3 := outN s codes gs (s - 1).toNat

theorem midN_succ (s m : Int) (codes : List Int) (gs : List (Int × Int)) (n : Nat) : midN s m codes gs (n + 1) = midN s m codes gs n ++ innN s m n codes gs (addsN s m n codes gs) := by
  simp [midN, List.range_succ]
theorem outN_succ (s : Int) (codes : List Int) (gs : List (Int × Int)) (n : Nat) : outN s codes gs (n + 1) = outN s codes gs n ++ midN s ((n : Int) + 1) codes gs s.toNat := by
  simp [outN, List.range_succ]
theorem addsN_len (s m st : Int) (codes : List Int) (gs : List (Int × Int)) (h0 : 0 < s) (h1 : s ≤ 41) : (addsN s m st codes gs).length ≤ 41 := by
  unfold addsN
  split
  · simp; omega
  · simp
theorem addsN_mem (s m st : Int) (codes : List Int) (gs : List (Int × Int)) (h0 : 0 < s) : ∀ x ∈ addsN s m st codes gs, 0 ≤ x ∧ x < s := by
  intro x hx
  unfold addsN at hx
  split at hx
  · simp at hx; omega
  · simp at hx; subst hx; exact ⟨Int.emod_nonneg _ (by omega), Int.emod_lt_of_pos _ h0⟩
theorem innN_len (s m st : Int) (codes : List Int) (gs : List (Int × Int)) (l : List Int) : (innN s m st codes gs l).length ≤ l.length := by
  unfold innN
  rw [List.length_map]
  exact List.length_filter_le _ _
theorem midN_len (s m : Int) (codes : List Int) (gs : List (Int × Int)) (h0 : 0 < s) (h1 : s ≤ 41) : ∀ n : Nat, (midN s m codes gs n).length ≤ 41 * n
  | 0 => by simp [midN]
  | n + 1 => by
    rw [midN_succ, List.length_append]
    have := midN_len s m codes gs h0 h1 n
    have h2 := innN_len s m n codes gs (addsN s m n codes gs)
    have h3 := addsN_len s m n codes gs h0 h1
    omega
theorem outN_len (s : Int) (codes : List Int) (gs : List (Int × Int)) (h0 : 0 < s) (h1 : s ≤ 41) : ∀ n : Nat, (outN s codes gs n).length ≤ 1681 * n
  | 0 => by simp [outN]
  | n + 1 => by
    rw [outN_succ, List.length_append]
    have := outN_len s codes gs h0 h1 n
    have h2 := midN_len s ((n : Int) + 1) codes gs h0 h1 s.toNat
    omega
theorem innN_take (s m st : Int) (codes : List Int) (gs : List (Int × Int)) (l : List Int) (k : Nat) (hk : k < l.length) :
    innN s m st codes gs (l.take (k + 1)) = innN s m st codes gs (l.take k) ++ if gs.all (agreeOk s m l[k] st codes) then [(m, l[k], st)] else [] := by
  unfold innN
  rw [List.take_succ_eq_append_getElem hk, List.filter_append, List.map_append]
  congr 1
  by_cases h : gs.all (agreeOk s m l[k] st codes) = true
  · rw [if_pos h]; simp only [List.filter_cons, h, if_true, List.filter_nil, List.map_cons, List.map_nil]
  · rw [if_neg h]; simp only [List.filter_cons, h, if_false, List.filter_nil, List.map_nil]; rfl

/-- All cells but those of block bm hold what they held. -/
structure CK (bm : Nat) (W W' : World) : Prop where
  size : W.heap.size ≤ W'.heap.size
  cell : ∀ (a : Addr) (v : Value), a.block ≠ bm → W.cell? a = some v → W'.cell? a = some v
theorem CK.refl (bm : Nat) (W : World) : CK bm W W := ⟨Nat.le_refl _, fun _ _ _ h => h⟩
theorem CK.trans {bm : Nat} {A B C : World} (h : CK bm A B) (k : CK bm B C) : CK bm A C := ⟨Nat.le_trans h.size k.size, fun a v hn hc => k.cell a v hn (h.cell a v hn hc)⟩
theorem CK.below {bm : Nat} {W W' : World} (hb : Below W.heap.size W W') : CK bm W W' := ⟨hb.size, fun _ _ _ h => below_cell hb h⟩
theorem CK.putObj {bm : Nat} (W : World) (l : Nat) (o o' : Obj) (h : W.heap[l]? = some o) (ho : o.isCells = false) : CK bm W (W.putObj l o') :=
  ⟨(grownBy_putObj' W l o').size, fun a v _ hc => cell_kept hc (grownBy_putObj' W l o') (fun r e => by cases e; exact ⟨o, h, ho⟩)⟩

/-- ints, pairs: in other blocks than bm -/
def IntsN (bm : Nat) (w : World) (a : Option Addr) (xs : List Int) : Prop := ∀ k, k < xs.length → ∃ b off, a = some ⟨b, off, none⟩ ∧ b ≠ bm ∧ b < w.heap.size ∧ w.cell? ⟨b, off + k, none⟩ = some (.int .i64 (xs.getD k 0))
def RecsN (bm : Nat) (w : World) (a : Option Addr) (xs : List (Int × Int)) : Prop := ∀ k (h : k < xs.length), ∃ b off, a = some ⟨b, off, none⟩ ∧ b ≠ bm ∧ b < w.heap.size ∧ w.cell? ⟨b, off + k * 2, none⟩ = some (.int .i64 xs[k].1) ∧ w.cell? ⟨b, off + k * 2 + 1, none⟩ = some (.int .i64 xs[k].2)
theorem IntsN.ck {bm : Nat} {w w' : World} {a : Option Addr} {xs : List Int} (h : IntsN bm w a xs) (k : CK bm w w') : IntsN bm w' a xs := fun i hi =>
  let ⟨b, off, ha, hn, hlt, hc⟩ := h i hi
  ⟨b, off, ha, hn, Nat.lt_of_lt_of_le hlt k.size, k.cell _ _ hn hc⟩
theorem RecsN.ck {bm : Nat} {w w' : World} {a : Option Addr} {xs : List (Int × Int)} (h : RecsN bm w a xs) (k : CK bm w w') : RecsN bm w' a xs := fun i hi =>
  let ⟨b, off, ha, hn, hlt, hc, hd⟩ := h i hi
  ⟨b, off, ha, hn, Nat.lt_of_lt_of_le hlt k.size, k.cell _ _ hn hc, k.cell _ _ hn hd⟩
theorem IntsN.to {bm : Nat} {w : World} {a : Option Addr} {xs : List Int} (h : IntsN bm w a xs) : IntsAt w a xs := fun i hi =>
  let ⟨b, off, ha, _, hlt, hc⟩ := h i hi
  ⟨b, off, ha, hlt, hc⟩
theorem RecsN.to {bm : Nat} {w : World} {a : Option Addr} {xs : List (Int × Int)} (h : RecsN bm w a xs) : Recs2At w a xs := fun i hi =>
  let ⟨b, off, ha, _, hlt, hc, hd⟩ := h i hi
  ⟨b, off, ha, hlt, hc, hd⟩
theorem OwnL.intsN {base bm : Nat} {w : World} {a : Option Addr} {c n : Nat} {zs : List Int} (h : OwnL 3 1 base w a c n (zs.map (Value.int .i64))) (hb : bm < base) : IntsN bm w a zs := fun k hk => by
  rcases h.form with ⟨_, _, _, h4⟩ | ⟨g, rfl, hg, hlt, _, _, _, hc⟩
  · simp at h4; subst h4; simp at hk
  · exact ⟨g, 0, rfl, by omega, hlt, by rw [Nat.zero_add]; exact hc k _ (by simp [hk])⟩
theorem IntsAt.toN {bm : Nat} {w0 w : World} {a : Option Addr} {xs : List Int} (h : IntsAt w0 a xs) (hb : Below w0.heap.size w0 w) (hm : w0.heap.size ≤ bm) : IntsN bm w a xs := fun k hk =>
  let ⟨b, off, ha, hlt, hc⟩ := h k hk
  ⟨b, off, ha, by omega, Nat.lt_of_lt_of_le hlt hb.size, below_cell hb hc⟩
theorem Recs2At.toN {bm : Nat} {w0 w : World} {a : Option Addr} {xs : List (Int × Int)} (h : Recs2At w0 a xs) (hb : Below w0.heap.size w0 w) (hm : w0.heap.size ≤ bm) : RecsN bm w a xs := fun k hk =>
  let ⟨b, off, ha, hlt, hc, hd⟩ := h k hk
  ⟨b, off, ha, by omega, Nat.lt_of_lt_of_le hlt hb.size, below_cell hb hc, below_cell hb hd⟩
theorem BookAt.ck {bm : Nat} {w w' : World} {B : Nat} {s wo : Int} {ak : Option Addr} {nk ck : Nat} {ad : Option Addr} {nd cd : Nat} (h : BookAt w B s wo ak nk ck ad nd cd) (k : CK bm w w') (hn : B ≠ bm) : BookAt w' B s wo ak nk ck ad nd cd :=
  ⟨k.cell _ _ hn h.c0, k.cell _ _ hn h.c1, k.cell _ _ hn h.c2, k.cell _ _ hn h.c3⟩

def encK (x : K3) : Array Value := #[.agg #[.int .i64 x.1, .int .i64 x.2.1, .int .i64 x.2.2]]

set_option maxRecDepth 100000 in
set_option maxHeartbeats 4000000 in
theorem keys1_stops (n : Nat) (hn : 2 ≤ n) (bm Bb Bc Bg : Nat) (s wo : Int) (ak : Option Addr) (ks : List K3) (ck : Nat) (ad : Option Addr) (ds : List Int) (cd : Nat) (ac : Option Addr) (codes : List Int) (cc : Nat) (ag : Option Addr) (gs : List (Int × Int)) (cg : Nat) (w : World)
    (hB : BookAt w Bb s wo ak ks.length ck ad ds.length cd) (hC : w.cell? ⟨Bc, 0, none⟩ = some (.slice ac codes.length cc)) (hG : w.cell? ⟨Bg, 0, none⟩ = some (.slice ag gs.length cg)) (nb : Bb ≠ bm) (nc : Bc ≠ bm) (ng : Bg ≠ bm) (hbm : bm < w.heap.size)
    (hc : IntsN bm w ac codes) (hg : RecsN bm w ag gs) (s0 : 2 ≤ s) (s1 : s ≤ 41) (lc : codes.length ≤ 1000) (lg : gs.length ≤ 1000) (hco : codes.all (plainOk s) = true) (hgo : gs.all (guessOk s codes.length) = true) :
    SeqStopsK Fence.wide n Try.prog 96 #[.pointer (some ⟨Bb, 0, none⟩), .pointer (some ⟨Bc, 0, none⟩), .pointer (some ⟨Bg, 0, none⟩)] encK (CK bm) (fun xs => xs = keysN s codes gs) (fun _ => True) 1000000 w := fun l J Jx W hW hJ hJx hY h0 => by
  have hB' := hB.below hW
  have hC' := below_cell hW hC
  have hG' := below_cell hW hG
  have hbm' : bm < W.heap.size := Nat.lt_of_lt_of_le hbm hW.size
  have hc' := hc.ck (CK.below hW)
  have hg' := hg.ck (CK.below hW)
  clear hW hB hC hG hbm hc hg
  have h1n : 1 ≤ n := by omega
  refine callsIn_of_wp Try.func96 rfl trivial ?_ rfl
  simp only [Try.ntmps96, List.size_toArray, List.length_cons, List.length_nil, Nat.reduceAdd, Nat.reduceSub, Array.replicate_succ, Array.replicate_zero, List.push_toArray, List.append_toArray, List.nil_append, List.cons_append]
  have hBc := hB'.c0
  obtain ⟨S, rfl⟩ := Int.eq_ofNat_of_zero_le (show 0 ≤ s by omega)
  gi_wp2
  gi_loopw [5, 6, 8, 9, 10, 14] (fun _ _ _ _ _ i wr => ∃ k1 : Nat, k1 + 1 ≤ S ∧ i = .int .i64 k1 ∧ J (outN S codes gs k1) wr ∧ CK bm W wr) (fun _ _ _ _ _ i _ => S - 1 - (intOf i).toNat)
  case atStart => exact ⟨0, by omega, rfl, h0, CK.refl _ _⟩
  case round =>
    obtain ⟨k1, hk1, rfl, hJ1, hck1⟩ := hrel
    have q0 := (hB'.ck hck1 nb).c0
    have lB := cell_lt q0
    simp only at lB
    have ho1 := outN_len S codes gs (by omega) (by omega) k1
    by_cases hlt1 : k1 + 1 < S
    · have d1 : decide ((k1 : Int) < (S : Int) - 1) = true := by rw [decide_eq_true_eq]; omega
      obtain ⟨wo1, hwo1⟩ : ∃ x : World, x = wr := ⟨_, rfl⟩
      subst hwo1
      gi_wp2
      gi_loopw [6, 8, 9, 10, 19] (fun _ _ _ _ i wr => ∃ k2 : Nat, k2 ≤ S ∧ i = .int .i64 k2 ∧ J (outN S codes gs k1 ++ midN S ((k1 : Int) + 1) codes gs k2) wr ∧ CK bm W wr) (fun _ _ _ _ i _ => S - (intOf i).toNat)
      case atStart => exact ⟨0, by omega, rfl, by simpa [midN] using hJ1, hck1⟩
      case round =>
        obtain ⟨k2, hk2, rfl, hJ2, hck2⟩ := hrel
        have ho2 := midN_len S ((k1 : Int) + 1) codes gs (by omega) (by omega) k2
        by_cases hlt2 : k2 < S
        · obtain ⟨wo2, hwo2⟩ : ∃ x : World, x = wr := ⟨_, rfl⟩
          subst hwo2
          obtain ⟨p0, p1, p2, p3⟩ := hB'.ck hck2 nb
          have pC := hck2.cell _ _ nc hC'
          have pG := hck2.cell _ _ ng hG'
          have lB2 := cell_lt p0
          have lC2 := cell_lt pC
          have lG2 := cell_lt pG
          simp only at lB2 lC2 lG2
          have hL := addsN_len S ((k1 : Int) + 1) k2 codes gs (by omega) (by omega)
          have hLm := addsN_mem S ((k1 : Int) + 1) k2 codes gs (by omega)
          have hadds := adds_any S wo ak ks ck ad ds cd ((k1 : Int) + 1) k2 ac codes cc ag gs cg wo2 (by omega) (by omega) lc lg (by omega) (by omega) (by omega) (by omega) (hc'.ck hck2).to (hg'.ck hck2).to hco hgo
          obtain ⟨L, hLL⟩ : ∃ L, addsN S ((k1 : Int) + 1) k2 codes gs = L := ⟨_, rfl⟩
          rw [hLL] at hL hLm hadds
          gi_wp2_with (refine ⟨trivial, ?_⟩; gi_at_call 97; refine (callsIn_wide.2 hadds).mono ?_; rintro e w3 ⟨aL, cL, rfl, own3, hb3⟩)
          have hJ3 := hJ _ _ _ none hJ2 (grown_of_below hb3 none) (fun r e => by cases e)
          have hck3 := hck2.trans (CK.below hb3)
          have hbm3 : bm < wo2.heap.size := Nat.lt_of_lt_of_le hbm' hck2.size
          have hLN := own3.intsN hbm3
          gi_loopw [8, 9, 10, 31] (fun _ _ _ i wr => ∃ k3 : Nat, k3 ≤ L.length ∧ i = .int .i64 k3 ∧ J (outN S codes gs k1 ++ midN S ((k1 : Int) + 1) codes gs k2 ++ innN S ((k1 : Int) + 1) k2 codes gs (L.take k3)) wr ∧ CK bm w3 wr) (fun _ _ _ i _ => L.length - (intOf i).toNat)
          case atStart => exact ⟨0, Nat.zero_le _, rfl, by simpa [innN] using hJ3, CK.refl _ _⟩
          case round =>
            obtain ⟨k3, hk3, rfl, hJ4, hck4⟩ := hrel
            have hckR := hck3.trans hck4
            have hBR := hB'.ck hckR nb
            have pCR := hckR.cell _ _ nc hC'
            have pGR := hckR.cell _ _ ng hG'
            have lBR := hBR.lt
            have lCR := cell_lt pCR
            have lGR := cell_lt pGR
            simp only at lCR lGR
            by_cases hlt3 : k3 < L.length
            · obtain ⟨b, off, haL, hbn, hbl, hcx⟩ := (hLN.ck hck4) k3 hlt3
              subst haL
              have hxm := hLm L[k3] (List.getElem_mem hlt3)
              have hsn := innN_take S ((k1 : Int) + 1) k2 codes gs L k3 hlt3
              have hcx' : wr.cell? ⟨b, off + k3, none⟩ = some (.int .i64 L[k3]) := by rw [hcx]; simp [hlt3]
              obtain ⟨x, hx⟩ : ∃ x, L[k3] = x := ⟨_, rfl⟩
              rw [hx] at hxm hsn hcx'
              clear hcx hx
              have hb5 : Below wr.heap.size wr (wr.alloc (.cells #[.int .i64 ((k1 : Int) + 1), .int .i64 x, .int .i64 k2] 91)) := (Below.refl _ _).alloc (Nat.le_refl _) _
              have hall := all_guess ag gs cg 98 #[] #[.pointer (some ⟨Bb, 0, none⟩), .pointer (some ⟨wr.heap.size, 0, none⟩), .pointer (some ⟨Bc, 0, none⟩)] (agreeOk S ((k1 : Int) + 1) x k2 codes) (wr.alloc (.cells #[.int .i64 ((k1 : Int) + 1), .int .i64 x, .int .i64 k2] 91))
                (by omega) ((hg'.ck hckR).to.below hb5) (enters Try.func98 (by kernel_rfl) rfl) (fun g hgm => agrees_meets S wo ak ks.length ck ad ds.length cd Bb wr.heap.size Bc ((k1 : Int) + 1) x k2 ac codes cc g _ (hBR.below hb5) (KeyAt.new wr _ _ _ _) (below_cell hb5 pCR) ((hc'.ck hckR).to.below hb5)
                  (by omega) (by omega) lc (by omega) (by omega) (by omega) (by omega) (by omega) (by omega) (List.all_eq_true.1 hgo g hgm))
              cases hag : gs.all (agreeOk S ((k1 : Int) + 1) x k2 codes)
              · rw [hag] at hall hsn
                have Hsn := Lib.hid hsn
                clear hag hsn
                gi_wp2_with (refine ⟨trivial, ?_⟩; gi_at_call 95; refine (callsIn_wide.2 hall).mono ?_; rintro e w6 ⟨rfl, hb6⟩; obtain ⟨y0, y1, y2⟩ := (KeyAt.new wr ((k1 : Int) + 1) x k2 91).below hb6; have ly := cell_lt y0; simp only at ly)
                refine ⟨fun _ h => (by cases h), ?_⟩
                gi_wp2
                have hb56 := hb5.trans (hb6.mono hb5.size)
                have hJ6 := hJ _ _ _ none hJ4 (grown_of_below hb56 none) (fun r e => by cases e)
                go_roundw
                case rel => exact ⟨k3 + 1, by omega, by go_num, by rw [Hsn.out]; simpa using hJ6, hck4.trans (CK.below hb56)⟩
                case measure => simp [intOf]; omega
              · rw [hag] at hall hsn
                have Hsn := Lib.hid hsn
                clear hag hsn
                have hlen3 : (outN S codes gs k1 ++ midN S ((k1 : Int) + 1) codes gs k2 ++ innN S ((k1 : Int) + 1) k2 codes gs (L.take k3)).length < 1000000 := by
                  have h3 := innN_len S ((k1 : Int) + 1) k2 codes gs (L.take k3)
                  rw [List.length_take] at h3
                  rw [List.length_append, List.length_append]
                  omega
                gi_wp2_with (refine ⟨trivial, ?_⟩; gi_at_call 95; refine (callsIn_wide.2 hall).mono ?_; rintro e w6 ⟨rfl, hb6⟩; obtain ⟨y0, y1, y2⟩ := (KeyAt.new wr ((k1 : Int) + 1) x k2 91).below hb6; have ly := cell_lt y0; simp only at ly; obtain ⟨fn, tmps, assign, body, hy, hR⟩ := hY _ ((k1 : Int) + 1, x, (k2 : Int)) w6 (hJ _ _ _ none hJ4 (grown_of_below (hb5.trans (hb6.mono hb5.size)) none) (fun r e => by cases e)) hlen3; dsimp only [encK] at hy)
                refine hR.mono ?_
                rintro e w7 (⟨rfl, hJ7, hk7⟩ | ⟨rfl, hJx7⟩)
                · gi_wp2
                  go_roundw
                  case rel => exact ⟨k3 + 1, by omega, by go_num, by rw [Hsn.out, ← List.append_assoc]; exact hJ7, (hck4.trans (CK.below (hb5.trans (hb6.mono hb5.size)))).trans hk7⟩
                  case measure => simp [intOf]; omega
                · gi_wp2
                  refine bodyPost_ret (results_none rfl _ _ _) rfl ?_
                  exact ⟨⟨_, rfl⟩, .inr ⟨_, trivial, hJx7⟩⟩
            · obtain rfl : k3 = L.length := by omega
              gi_wp2
              go_roundw
              case rel => exact ⟨k2 + 1, by omega, by go_num, by rw [midN_succ, hLL, ← List.append_assoc]; rw [List.take_length] at hJ4; exact hJ4, hckR⟩
              case measure => simp [intOf]; omega
        · obtain rfl : k2 = S := by omega
          gi_wp2
          go_roundw
          case rel => exact ⟨k1 + 1, by omega, by go_num, by rw [outN_succ, Int.toNat_natCast]; exact hJ2, hck2⟩
          case measure => simp [intOf]; omega
    · have hS : k1 = S - 1 := by omega
      gi_wp2
      go_end0
      exact ⟨⟨_, rfl⟩, .inl ⟨_, rfl, by unfold keysN; rw [show ((S : Int) - 1).toNat = k1 by omega]; exact hJ1⟩⟩
end Go.Proofs.Ytmplgcefhpobgaa
