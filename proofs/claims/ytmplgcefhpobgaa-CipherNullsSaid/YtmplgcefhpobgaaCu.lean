/- cipher: which keys agree -/
import Derived.Test.YtmplgcefhpobgaaCt
namespace Go.Proofs.Ytmplgcefhpobgaa
set_option linter.unusedVariables false
set_option linter.unusedSimpArgs false
set_option linter.unnecessarySimpa false
open Go.RowKit Go.Flow

structure KeyAt (w : World) (B : Nat) (m a st : Int) : Prop where
  c0 : w.cell? ⟨B, 0, none⟩ = some (.int .i64 m)
  c1 : w.cell? ⟨B, 1, none⟩ = some (.int .i64 a)
  c2 : w.cell? ⟨B, 2, none⟩ = some (.int .i64 st)
theorem KeyAt.below {w w' : World} {B : Nat} {m a st : Int} (h : KeyAt w B m a st) (hb : Below w.heap.size w w') : KeyAt w' B m a st := ⟨below_cell hb h.c0, below_cell hb h.c1, below_cell hb h.c2⟩
theorem KeyAt.new (w : World) (m a st : Int) (T : TypeId) : KeyAt (w.alloc (.cells #[.int .i64 m, .int .i64 a, .int .i64 st] T)) w.heap.size m a st :=
  ⟨cell_new w _ T 0 _ rfl, cell_new w _ T 1 _ rfl, cell_new w _ T 2 _ rfl⟩

def agreeOk (s m a st : Int) (codes : List Int) (x : Int × Int) : Bool := codeN s m a st x.2 x.1 == codes.getD x.1.toNat 0

set_option maxHeartbeats 1000000 in
theorem agrees_meets (s wo : Int) (ak : Option Addr) (nk ck : Nat) (ad : Option Addr) (nd cd : Nat) (Bb Bk Bc : Nat) (m a st : Int) (ac : Option Addr) (codes : List Int) (cc : Nat) (x : Int × Int) (w : World) (hb : BookAt w Bb s wo ak nk ck ad nd cd) (hk : KeyAt w Bk m a st)
    (hc : w.cell? ⟨Bc, 0, none⟩ = some (.slice ac codes.length cc)) (hi : IntsAt w ac codes) (s0 : 0 < s) (s1 : s ≤ 1000) (lc : codes.length ≤ 1000) (m0 : 0 ≤ m) (m1 : m ≤ 1000) (a0 : 0 ≤ a) (a1 : a ≤ 1000) (st0 : 0 ≤ st) (st1 : st ≤ 1000) (hx : guessOk s codes.length x = true) :
    Meets Try.prog w 98 #[] #[.pointer (some ⟨Bb, 0, none⟩), .pointer (some ⟨Bk, 0, none⟩), .pointer (some ⟨Bc, 0, none⟩)] (.agg #[.int .i64 x.1, .int .i64 x.2]) (agreeOk s m a st codes x) := by
  intro w1 hw
  obtain ⟨i, p⟩ := x
  simp [guessOk, ownOk, plainOk] at hx
  obtain ⟨⟨i0, i1⟩, p0, p1⟩ := hx
  obtain ⟨j, rfl⟩ := Int.eq_ofNat_of_zero_le i0
  have hj : j < codes.length := by omega
  obtain ⟨q0, q1, q2, q3⟩ := hb.below hw
  obtain ⟨k0, k1, k2⟩ := hk.below hw
  have qc := below_cell hw hc
  have lB := cell_lt q0
  have lK := cell_lt k0
  have lC := cell_lt qc
  obtain ⟨b, off, rfl, hbl, hcell⟩ := (hi.below hw) j hj
  simp only at lB lC lK
  have hjI : (j : Int) < (codes.length : Int) := by omega
  clear hb hc hw hi hk
  show Calls Try.prog 98 #[.agg #[.int .i64 j, .int .i64 p], .pointer (some ⟨Bb, 0, none⟩), .pointer (some ⟨Bk, 0, none⟩), .pointer (some ⟨Bc, 0, none⟩)] w1 _
  go_enter Try.func98, Try.ntmps98
  go_wp2
  (refine wp_region_ext 13 (by kernel_rfl) (by kernel_rfl) ?_; simp only [List.take_succ_cons, List.take_zero, List.drop_succ_cons, List.drop_zero]; (repeat (go_big_quiet_step (((go_at_call 60; refine Calls_ext (code_any s wo m a st p j _ _ _ (by omega) (by omega) (by omega) (by omega) (by omega) (by omega) (by omega) (by omega) (by omega) (by omega) (by omega) (by omega))))))); refine wpQuiet_nil ?_; rintro _ ⟨ex, rfl⟩; have hex := ex.below; have hexz := ex.size; (try simp at hexz); (try (have hy0 : w.heap.size < ex.to.heap.size := by omega)); (try (have hy1 : w.heap.size + 1 < ex.to.heap.size := by omega)); (try (have hy2 : w.heap.size + 2 < ex.to.heap.size := by omega)))
  go_wp2
  go_ret
  exact ⟨by simp [agreeOk, hj], by (repeat (first | exact Below.refl _ _ | refine Below.alloc ?_ (by first | omega | (simp; done) | (simp; omega)) _ | refine Below.drew ?_ | refine Below.setCell ?_ (by first | omega | (simp; done) | (simp; omega)) _ | refine Below.trans ?_ (Below.mono (by assumption) (by first | omega | (simp; done) | (simp; omega)))))⟩

/-- What Add can be. -/
def addsN (s m st : Int) (codes : List Int) (gs : List (Int × Int)) : List Int :=
  match gs with
  | [] => (List.range s.toNat).map Int.ofNat
  | g :: _ => [(codes.getD g.1.toNat 0 + s - codeN s m 0 st g.2 g.1) % s]

set_option maxHeartbeats 1000000 in
theorem adds_any (s wo : Int) (ak : Option Addr) (ks : List (Int × Int × Int)) (ck : Nat) (ad : Option Addr) (ds : List Int) (cd : Nat) (m st : Int) (ac : Option Addr) (codes : List Int) (cc : Nat) (ag : Option Addr) (gs : List (Int × Int)) (cg : Nat) (w : World) (s0 : 0 < s) (s1 : s ≤ 1000) (lc : codes.length ≤ 1000) (lg : gs.length ≤ 1000) (m0 : 0 ≤ m) (m1 : m ≤ 1000) (st0 : 0 ≤ st) (st1 : st ≤ 1000)
    (hc : IntsAt w ac codes) (hg : Recs2At w ag gs) (hco : codes.all (plainOk s) = true) (hgo : gs.all (guessOk s codes.length) = true) :
    Calls Try.prog 97 #[.agg #[.int .i64 s, .int .i64 wo, .slice ak ks.length ck, .slice ad ds.length cd], .agg #[.int .i64 m, .int .i64 0, .int .i64 st], .slice ac codes.length cc, .slice ag gs.length cg] w fun e w' =>
      ∃ a c, e = .returned (.slice a (addsN s m st codes gs).length c) ∧ OwnL 3 1 w.heap.size w' a c (addsN s m st codes gs).length ((addsN s m st codes gs).map (Value.int .i64)) ∧ Below w.heap.size w w' := by
  have hne : (s == 0) = false := by simp; omega
  cases gs with
  | nil =>
    obtain ⟨S, rfl⟩ := Int.eq_ofNat_of_zero_le (Int.le_of_lt s0)
    have hres : addsN S m st codes [] = upTo (fun i => (i : Int)) S := by simp [addsN, upTo]
    rw [hres, upTo_len]
    clear hres
    simp only [List.length_nil]
    go_enter Try.func97, Try.ntmps97
    go_wp2
    obtain ⟨wS, hwS⟩ : ∃ x : World, x = (w.alloc (.cells #[.int .i64 S, .int .i64 wo, .slice ak ks.length ck, .slice ad ds.length cd] 32)).alloc (.cells #[.int .i64 m, .int .i64 0, .int .i64 st] 91) := ⟨_, rfl⟩
    have hbS : Below w.heap.size w wS := by rw [hwS]; (repeat (first | exact Below.refl _ _ | refine Below.alloc ?_ (by first | omega | (simp; done) | (simp; omega)) _ | refine Below.drew ?_ | refine Below.setCell ?_ (by first | omega | (simp; done) | (simp; omega)) _ | refine Below.trans ?_ (Below.mono (by assumption) (by first | omega | (simp; done) | (simp; omega)))))
    rw [← hwS]
    go_loopw [8, 10, 39] (fun v _ i wr => ∃ (k : Nat) (a' : Option Addr) (c' : Nat), k ≤ S ∧ i = .int .i64 k ∧ v = .slice a' k c' ∧ OwnL 3 1 w.heap.size wr a' c' k ((upTo (fun i => (i : Int)) k).map (Value.int .i64)) ∧ Below w.heap.size w wr)
      (fun _ _ i _ => S - (intOf i).toNat)
    case atStart => exact ⟨0, none, 0, Nat.zero_le _, rfl, rfl, OwnL.nil _ _ _ _, hbS⟩
    case round =>
      obtain ⟨k, a', c', hk', rfl, rfl, hown, hbel⟩ := hrel
      have hzz : w.heap.size ≤ wr.heap.size := hbel.size
      by_cases hlt : k < S
      · go_wp2_with (at_builtin; refine wpList_app_lit elInt rfl _ _ rfl _ _ _ _ _ rfl hown 1 1 rfl rfl (fun u hu => ?c1) ?c2 ?c3 ?c4 ?_)
        case c1 => simp at hu; subst hu; rfl
        case c2 => unfold maxLen; omega
        case c3 => omega
        case c4 => omega
        intro a2 c2 w2 hown2 hb2
        go_wp2
        go_roundw
        case rel => exact ⟨k + 1, a2, c2, by omega, by go_num, rfl, by rw [upTo_succ, List.map_append]; exact hown2, hbel.trans hb2⟩
        case measure => simp [intOf]; omega
      · obtain rfl : k = S := by omega
        go_wp2
        go_ret
        exact ⟨a', c', rfl, hown, hbel⟩
  | cons g gs =>
    obtain ⟨i, p⟩ := g
    simp [guessOk, ownOk, plainOk] at hgo
    obtain ⟨⟨⟨i0, i1⟩, p0, p1⟩, _⟩ := hgo
    obtain ⟨j, rfl⟩ := Int.eq_ofNat_of_zero_le i0
    have hj : j < codes.length := by omega
    obtain ⟨b2, off2, rfl, hbl2, hg0, hg1⟩ := hg 0 (by simp)
    obtain ⟨b, off, rfl, hbl, hcell⟩ := hc j hj
    have hcj := List.all_eq_true.1 hco codes[j] (List.getElem_mem hj)
    simp [plainOk] at hcj
    simp at hg0 hg1
    have hjI : (j : Int) < (codes.length : Int) := by omega
    have hcb := codeN_b (s := s) (m := m) (a := 0) (st := st) (n := p) (i := j) s0
    have hres : addsN s m st codes ((↑j, p) :: gs) = [(codes[j] + s - codeN s m 0 st p j) % s] := by simp [addsN, hj]
    rw [hres]
    have hcell' : w.cell? ⟨b, off + j, none⟩ = some (.int .i64 codes[j]) := by rw [hcell]; simp [hj]
    have x1 : IntKind.i64.wrap (codes[j] + s) = codes[j] + s := IntWalk.i64_in _ (by omega)
    have x2 : IntKind.i64.wrap (codes[j] + s - codeN s m 0 st p j) = codes[j] + s - codeN s m 0 st p j := IntWalk.i64_in _ (by omega)
    clear hres hcell hc hg hco
    have hgl : (0 : Int) < ((((j : Int), p) :: gs).length : Int) := by simp
    have hgl2 : 0 < (((j : Int), p) :: gs).length := by simp
    obtain ⟨ng, hng⟩ : ∃ ng, (((j : Int), p) :: gs).length = ng := ⟨_, rfl⟩
    rw [hng] at hgl hgl2 ⊢
    clear hng
    go_enter Try.func97, Try.ntmps97
    go_wp2
    have z1 : b < w.heap.size + 1 + 1 + 1 := by omega
    have z2 : b < w.heap.size + 1 + 1 := by omega
    have z3 : b < w.heap.size + 1 := by omega
    (refine wp_region_ext 19 (by kernel_rfl) (by kernel_rfl) ?_; simp only [List.take_succ_cons, List.take_zero, List.drop_succ_cons, List.drop_zero]; (repeat (go_big_quiet_step (((go_at_call 60; refine Calls_ext (code_any s wo m 0 st p j _ _ _ (by omega) (by omega) (by omega) (by omega) (by omega) (by omega) (by omega) (by omega) (by omega) (by omega) (by omega) (by omega))))))); refine wpQuiet_nil ?_; rintro _ ⟨ex, rfl⟩; have hex := ex.below; have hexz := ex.size; (try simp at hexz); (try (have hy0 : w.heap.size < ex.to.heap.size := by omega)); (try (have hy1 : w.heap.size + 1 < ex.to.heap.size := by omega)); (try (have hy2 : w.heap.size + 2 < ex.to.heap.size := by omega)))
    go_wp2
    go_ret
    have hwe : Below w.heap.size w ex.to := Below.trans (by (repeat (first | exact Below.refl _ _ | refine Below.alloc ?_ (by first | omega | (simp; done) | (simp; omega)) _ | refine Below.drew ?_ | refine Below.setCell ?_ (by first | omega | (simp; done) | (simp; omega)) _ | refine Below.trans ?_ (Below.mono (by assumption) (by first | omega | (simp; done) | (simp; omega)))))) (ex.below.mono (by simp; omega))
    exact ⟨_, _, rfl, OwnL.lit #[_] hwe.size (by decide) rfl, hwe.alloc hwe.size _⟩
end Go.Proofs.Ytmplgcefhpobgaa
