/- copies: what the legs of a route take so that a copy comes at an hour · copies: the truth in which dispatches have some hours · copies: Explain · copies: ProveTruth; the reference's Explains · copies, plain: the truth that Explain returns explains all -/
import Derived.Test.YtfclemnkcpadpaaKm
import Derived.Test.YtfclemnkcpadpaaCep
import Derived.Test.YtfclemnkcpadpaaRi
import Derived.Test.YtfclemnkcpadpaaKz
import Derived.Test.YtfclemnkcpadpaaPg
import Derived.Test.YtfclemnkcpadpaaKx
import Derived.Test.YtfclemnkcpadpaaRh
import Derived.Test.YtfclemnkcpadpaaLf
import Derived.Test.YtfclemnkcpadpaaPa
namespace Go.Proofs.Ytfclemnkcpadpaa
set_option linter.unusedVariables false
set_option linter.unusedSimpArgs false
set_option linter.unnecessarySimpa false
open Go.RowKit Go.Flow

def takesF : List Leg → Int → Int → Option (List Int)
  | [], s, h => if s = h then some [] else none
  | l :: ls, s, h => (List.range (l.hi - l.lo + 1).toNat).findSome? fun (j : Nat) => (takesF ls (awk l (s + (l.lo + j))) h).map ((l.lo + j) :: ·)
def TakesV (B : Nat) : Option (List Int) → Value → World → Prop
  | none, v, _ => v = .tuple #[.slice none 0 0, .bool false]
  | some z, v, w' => ∃ a c, v = .tuple #[.slice a z.length c, .bool true] ∧ OwnL 3 1 B w' a c z.length (z.map (Value.int .i64))
theorem TakesV.kept {B : Nat} {o : Option (List Int)} {v : Value} {w w' : World} (h : TakesV B o v w) (hb : Below w.heap.size w w') : TakesV B o v w' := by
  cases o with
  | none => exact h
  | some z => obtain ⟨a, c, h1, h2⟩ := h; exact ⟨a, c, h1, h2.kept hb⟩
theorem TakesV.base_le {B B' : Nat} {o : Option (List Int)} {v : Value} {w : World} (h : TakesV B o v w) (hb : B' ≤ B) : TakesV B' o v w := by
  cases o with
  | none => exact h
  | some z => obtain ⟨a, c, h1, h2⟩ := h; exact ⟨a, c, h1, h2.base_le hb⟩
def SlcV (B : Nat) : Option (List Int) → Value → World → Prop
  | none, v, _ => v = .slice none 0 0
  | some z, v, w' => ∃ a c, v = .slice a z.length c ∧ OwnL 3 1 B w' a c z.length (z.map (Value.int .i64))
theorem SlcV.kept {B : Nat} {o : Option (List Int)} {v : Value} {w w' : World} (h : SlcV B o v w) (hb : Below w.heap.size w w') : SlcV B o v w' := by
  cases o with
  | none => exact h
  | some z => obtain ⟨a, c, h1, h2⟩ := h; exact ⟨a, c, h1, h2.kept hb⟩
def IsV (o : Option (List Int)) (v : Value) (_ : World) : Prop := v = .bool o.isSome
theorem IsV.kept {o : Option (List Int)} {v : Value} {w w' : World} (h : IsV o v w) (_ : Below w.heap.size w w') : IsV o v w' := h
theorem takesF_len : ∀ (ls : List Leg) (s h : Int) (z : List Int), takesF ls s h = some z → z.length = ls.length
  | [], s, h, z, hz => by
    rw [takesF] at hz
    split at hz
    · cases hz; rfl
    · cases hz
  | l :: ls, s, h, z, hz => by
    rw [takesF] at hz
    obtain ⟨j, _, hj⟩ := List.exists_of_findSome?_eq_some hz
    rw [Option.map_eq_some_iff] at hj
    obtain ⟨y, hy, rfl⟩ := hj
    rw [List.length_cons, List.length_cons, takesF_len ls _ h y hy]
theorem findSome_range_none {α : Type} {f : Nat → Option α} {n : Nat} (h : ∀ j, j < n → f j = none) : (List.range n).findSome? f = none :=
  List.findSome?_eq_none_iff.2 (fun x hx => h x (List.mem_range.1 hx))
theorem findSome_range_some {α : Type} {f : Nat → Option α} {z : α} : ∀ {n k : Nat}, k < n → (∀ j, j < k → f j = none) → f k = some z → (List.range n).findSome? f = some z
  | n + 1, k, hk, h1, h2 => by
    rw [List.range_succ, List.findSome?_append]
    rcases Nat.lt_or_eq_of_le (Nat.lt_succ_iff.1 hk) with h | rfl
    · rw [findSome_range_some h h1 h2]; rfl
    · rw [findSome_range_none h1]; simp [h2]

set_option maxRecDepth 100000 in
set_option maxHeartbeats 4000000 in
theorem takes_any (al : Option Addr) (ca : Nat) (legs : List Leg) (lossy : Bool) (hour : Int) (ln : legs.length ≤ 3) (hok : legs.all legOk = true) (sm : ∀ l ∈ legs, l.asl.length ≤ 1000) :
    ∀ (m k : Nat), k + m = legs.length → ∀ (s : Int) (w : World), 0 ≤ s → s ≤ 40 + 40 * (k : Int) → LegsAt w al legs →
    Calls Try.prog 109 #[.agg #[.slice al legs.length ca, .bool lossy], .int .i64 (k : Int), .int .i64 s, .int .i64 hour] w fun e w' => (∃ v, e = .returned v ∧ TakesV w.heap.size (takesF (legs.drop k) s hour) v w') ∧ Below w.heap.size w w' := by
  intro m
  induction m with
  | zero =>
    intro k hk s w h0 h1 hl
    obtain rfl : k = legs.length := by omega
    rw [List.drop_length]
    by_cases e : s = hour
    · have t : (s == hour) = true := by simpa using e
      have Hf : Hid (takesF [] s hour = some []) := Lib.hid (by rw [takesF, if_pos e])
      clear e
      go_enter Try.func109, Try.ntmps109
      go_wp2
      go_ret2
      refine ⟨⟨_, rfl, ?_⟩, by (repeat (first | exact Below.refl _ _ | refine Below.alloc ?_ (by first | omega | (simp; done) | (simp; omega)) _ | refine Below.drew ?_ | refine Below.setCell ?_ (by first | omega | (simp; done) | (simp; omega)) _ | refine Below.trans ?_ (Below.mono (by assumption) (by first | omega | (simp; done) | (simp; omega)))))⟩
      rw [Hf.out]
      exact ⟨none, 0, rfl, OwnL.nil _ _ _ _⟩
    · have t : (s == hour) = false := by simpa using e
      have Hf : Hid (takesF [] s hour = none) := Lib.hid (by rw [takesF, if_neg e])
      clear e
      go_enter Try.func109, Try.ntmps109
      go_wp2
      go_ret2
      refine ⟨⟨_, rfl, ?_⟩, by (repeat (first | exact Below.refl _ _ | refine Below.alloc ?_ (by first | omega | (simp; done) | (simp; omega)) _ | refine Below.drew ?_ | refine Below.setCell ?_ (by first | omega | (simp; done) | (simp; omega)) _ | refine Below.trans ?_ (Below.mono (by assumption) (by first | omega | (simp; done) | (simp; omega)))))⟩
      rw [Hf.out]
      exact rfl
  | succ m ih =>
    intro k hk s w h0 h1 hl
    have hkl : k < legs.length := by omega
    have hkI : (k : Int) < (legs.length : Int) := by omega
    have hne : ((k : Int) == (legs.length : Int)) = false := by simp; omega
    have hwk : IntKind.i64.wrap ((k : Int) + 1) = (k : Int) + 1 := IntWalk.i64_in _ (by omega)
    obtain ⟨lg, hlg⟩ : ∃ x, legs[k] = x := ⟨_, rfl⟩
    have hlok := List.all_eq_true.1 hok legs[k] (List.getElem_mem hkl)
    have hlsm := sm legs[k] (List.getElem_mem hkl)
    have hdr : legs.drop k = lg :: legs.drop (k + 1) := by rw [List.drop_eq_getElem_cons hkl, hlg]
    rw [hlg] at hlok hlsm
    have hlb : 0 ≤ lg.lo ∧ lg.lo ≤ lg.hi ∧ lg.hi ≤ 6 ∧ lg.asl.all (fun r => uptoB r 30) = true := by
      simp only [legOk, uptoB, Bool.and_eq_true, decide_eq_true_eq] at hlok
      exact ⟨hlok.1.1.1, hlok.1.1.2, hlok.1.2, hlok.2⟩
    obtain ⟨b0, b1, b2, b3⟩ := hlb
    have Hb3 := Lib.hid b3
    obtain ⟨f, hf⟩ : ∃ f : Nat → Option (List Int), f = fun (j : Nat) => (takesF (legs.drop (k + 1)) (awk lg (s + (lg.lo + j))) hour).map ((lg.lo + j) :: ·) := ⟨_, rfl⟩
    have Hd : Hid (takesF (legs.drop k) s hour = (List.range (lg.hi - lg.lo + 1).toNat).findSome? f) := Lib.hid (by rw [hdr, takesF, hf])
    have Hf := Lib.hid hf
    clear hf hdr hlok b3
    obtain ⟨bL, offL, aa, cc, rfl, hbL, e0, e1, e2, eA⟩ := hl k hkl
    rw [hlg] at e0 e1 e2 eA
    clear hlg
    go_enter Try.func109, Try.ntmps109
    go_wp2
    obtain ⟨W2, hW2⟩ : ∃ z : World, z = (w.alloc (.cells #[.slice (some ⟨bL, offL, none⟩) legs.length ca, .bool lossy] 108)).alloc (.cells #[.int .i64 lg.lo, .int .i64 lg.hi, .slice aa lg.asl.length cc] 105) := ⟨_, rfl⟩
    have C1 : Cells W2 w.heap.size #[.slice (some ⟨bL, offL, none⟩) legs.length ca, .bool lossy] 108 := by rw [hW2]; exact (Cells.new _ _ _).alloc _
    have C2 : Cells W2 (w.heap.size + 1) #[.int .i64 lg.lo, .int .i64 lg.hi, .slice aa lg.asl.length cc] 105 := by rw [hW2]; exact Cells.new' _ _ _ _ (by simp)
    have t2 : Below w.heap.size w W2 := by rw [hW2]; (repeat (first | exact Below.refl _ _ | refine Below.alloc ?_ (by first | omega | (simp; done) | (simp; omega)) _ | refine Below.drew ?_ | refine Below.setCell ?_ (by first | omega | (simp; done) | (simp; omega)) _ | refine Below.trans ?_ (Below.mono (by assumption) (by first | omega | (simp; done) | (simp; omega)))))
    rw [← hW2]
    clear hW2
    go_loopw [11] (fun u wr => ∃ j : Nat, (j : Int) ≤ lg.hi - lg.lo + 1 ∧ u = .int .i64 (lg.lo + j) ∧ (∀ i, i < j → f i = none) ∧ Below W2.heap.size W2 wr) (fun u _ => (lg.hi + 1 - intOf u).toNat)
    case atStart => exact ⟨0, by omega, by simp, fun i hi => absurd hi (Nat.not_lt_zero i), Below.refl _ _⟩
    case round =>
      obtain ⟨j, hj, rfl, hno, hwr⟩ := hrel
      have Hno := Lib.hid hno
      clear hno
      have tw := t2.trans (hwr.mono t2.size)
      have q0 := (C1.below hwr).cell 0
      have q1 := (C1.below hwr).cell 1
      have r0 := (C2.below hwr).cell 0
      have r1 := (C2.below hwr).cell 1
      have r2 := (C2.below hwr).cell 2
      have lC := (C1.below hwr).lt
      have lD := (C2.below hwr).lt
      simp at q0 q1 r0 r1 r2
      clear e0 e1 e2
      by_cases hjl : (j : Int) ≤ lg.hi - lg.lo
      · have hle : lg.lo + (j : Int) ≤ lg.hi := by omega
        have hc : ((k + 1 : Nat) : Int) = (k : Int) + 1 := by omega
        have hab := awk_bd lg (s + (lg.lo + j))
        have haw := fun X (b : Below wr.heap.size wr X) => awake_leg aa cc lg (s + (lg.lo + j)) X ((eA.below tw).below b) hlsm Hb3.out (by omega) (by omega)
        have hrec := fun X (b : Below wr.heap.size wr X) => ih (k + 1) (by omega) (awk lg (s + (lg.lo + j))) X (by omega) (by omega) ((hl.below tw).below b)
        rw [hc] at hrec
        have hfj : f j = (takesF (legs.drop (k + 1)) (awk lg (s + (lg.lo + j))) hour).map ((lg.lo + j) :: ·) := by rw [Hf.out]
        obtain ⟨A, hA⟩ : ∃ A, awk lg (s + (lg.lo + j)) = A := ⟨_, rfl⟩
        rw [hA] at hrec haw hfj hab
        have hzl := takesF_len (legs.drop (k + 1)) A hour
        obtain ⟨o, ho⟩ : ∃ o, takesF (legs.drop (k + 1)) A hour = o := ⟨_, rfl⟩
        rw [ho] at hrec hfj hzl
        have Hfj := Lib.hid hfj
        have Hzl := Lib.hid hzl
        clear hzl
        have hws : IntKind.i64.wrap (s + (lg.lo + j)) = s + (lg.lo + j) := IntWalk.i64_in _ (by omega)
        clear hA ho hfj hc ih
        go_wp2
        (refine wp_region_seq 15 [] [] 55 [true, true, true, true, true, true, true, true, true, false, false, false, false, false, false] [TakesV wr.heap.size o, TakesV wr.heap.size o, SlcV wr.heap.size o, IsV o, SlcV wr.heap.size o, IsV o] (by kernel_rfl) (by kernel_rfl) rfl (mono_cons (fun v w w' h hb => h.kept hb) (mono_cons (fun v w w' h hb => h.kept hb) (mono_cons (fun v w w' h hb => h.kept hb) (mono_cons (fun v w w' h hb => h.kept hb) (mono_cons (fun v w w' h hb => h.kept hb) (mono_cons (fun v w w' h hb => h.kept hb) mono_nil)))))) ?_; simp only [pickOps, List.filterMap_cons, List.filterMap_nil, List.getElem?_toArray, List.getElem?_cons_succ, List.getElem?_cons_zero]; (repeat (refine wpFl_step _ rfl (fun w => (by go_simp; rfl)) ?_)); refine wpFl_nil ?_; simp only [maskOps, dummy, Act.put, List.setIfInBounds_toArray, List.set_cons_zero, List.set_cons_succ, List.take_succ_cons, List.take_zero, List.drop_succ_cons, List.drop_zero]; (repeat (refine wpQB_step (fun K hK => ?_); go_simp; first | (refine hK _ ?_; clear hK K) | (apply Exists.intro; refine ⟨fun ex => ?_, hK _ ?_⟩; ((go_at_call 101; exact haw _ ex.below)); clear hK K))); refine wpQB_nil ?_; simp only [relObl2, under, relEnd, and_true, List.nil_append, List.cons_append])
        refine ⟨⟨?_, ?_, ?_, ?_, ?_, ?_⟩, ?_⟩
        · intro e
          go_simp
          refine (hrec _ e.below).mono ?_
          rintro _ _ ⟨⟨v, rfl, hv⟩, hb⟩
          exact ⟨hb, hv.base_le e.size⟩
        · intro e v1 h1
          go_simp
          exact ⟨Below.refl _ _, h1 (by kernel_rfl)⟩
        · intro e v1 _ v2 h2
          have h2' := h2 (by kernel_rfl)
          cases o with
          | none =>
            obtain rfl : v2 = .tuple #[.slice none 0 0, .bool false] := h2'
            go_simp
            exact ⟨Below.refl _ _, rfl⟩
          | some z =>
            obtain ⟨a, c, rfl, ho⟩ := h2'
            go_simp
            exact ⟨Below.refl _ _, a, c, rfl, ho⟩
        · intro e v1 _ v2 h2 v3 _
          have h2' := h2 (by kernel_rfl)
          cases o with
          | none =>
            obtain rfl : v2 = .tuple #[.slice none 0 0, .bool false] := h2'
            go_simp
            exact ⟨Below.refl _ _, rfl⟩
          | some z =>
            obtain ⟨a, c, rfl, ho⟩ := h2'
            go_simp
            exact ⟨Below.refl _ _, rfl⟩
        · intro e v1 _ v2 _ v3 h3 v4 _
          go_simp
          exact ⟨Below.refl _ _, h3 (by kernel_rfl)⟩
        · intro e v1 _ v2 _ v3 _ v4 h4 v5 _
          go_simp
          exact ⟨Below.refl _ _, h4 (by kernel_rfl)⟩
        intro e
        rintro v1 - v2 - v3 - v4 - v5 hv v6 hv6
        simp only [Act.put, List.setIfInBounds_toArray, List.set_cons_zero, List.set_cons_succ]
        have he5 := e.below
        obtain ⟨w5, hw5⟩ : ∃ x : World, x = e.to := ⟨_, rfl⟩
        rw [← hw5] at he5 hv hv6 ⊢
        clear hw5 e hrec haw
        have z5 := he5.size
        have tz := tw.size
        cases o with
        | none =>
          obtain rfl : v5 = .slice none 0 0 := hv
          obtain rfl : v6 = .bool false := hv6
          have Hn := Lib.hid (show f j = none from Hfj.out)
          go_wp2
          go_roundw
          case rel => exact ⟨j + 1, by omega, by first | go_num | (simp; omega), fun i hi => (by rcases Nat.lt_or_eq_of_le (Nat.lt_succ_iff.1 hi) with h | rfl; exact Hno.out i h; exact Hn.out), hwr.trans (he5.mono hwr.size)⟩
          case measure => simp [intOf]; omega
        | some z =>
          obtain ⟨az, cz, rfl, oz⟩ := hv
          obtain rfl : v6 = .bool true := hv6
          have hz3 : z.length ≤ 3 := by
            have := Hzl.out z rfl
            rw [List.length_drop] at this
            omega
          have Hn := Lib.hid (show f j = some ((lg.lo + j) :: z) from Hfj.out)
          go_wp2_with (at_builtin; refine wpList_app elInt rfl _ _ rfl w.heap.size (some ⟨w5.heap.size, 0, none⟩) 1 1 [.int .i64 (lg.lo + j)] rfl (OwnL.lit #[.int .i64 (lg.lo + j)] (by omega) (by unfold maxLen; omega) rfl) az z.length cz _ rfl (fun h => ?c1) (by simp) (SrcAt.own (oz.alloc _)) (fun u hu => ?c2) ?c3 ?c4 ?c5 ?_)
          case c1 => subst h; exact oz.isnil
          case c2 => obtain ⟨q, _, rfl⟩ := List.mem_map.1 hu; rfl
          case c3 => unfold maxLen; omega
          case c4 => omega
          case c5 => simp; omega
          intro a7 c7 w7 own7 hb7
          rw [Nat.add_comm 1 z.length] at own7 ⊢
          go_wp2
          go_ret2
          refine ⟨⟨_, rfl, ?_⟩, (tw.trans (he5.mono tz)).trans (((Below.refl _ _).alloc (by omega) _).trans hb7)⟩
          rw [Hd.out, findSome_range_some (k := j) (by omega) Hno.out Hn.out]
          exact ⟨a7, c7, rfl, own7⟩
      · have hle : ¬ (lg.lo + (j : Int) ≤ lg.hi) := by omega
        have Hn : Hid ((List.range (lg.hi - lg.lo + 1).toNat).findSome? f = none) := Lib.hid (findSome_range_none fun i hi => Hno.out i (by omega))
        go_wp2
        go_ret2
        refine ⟨⟨_, rfl, ?_⟩, tw⟩
        rw [Hd.out, Hn.out]
        exact rfl
end Go.Proofs.Ytfclemnkcpadpaa

namespace Go.Proofs.Ytfclemnkcpadpaa
set_option linter.unusedVariables false
set_option linter.unusedSimpArgs false
set_option linter.unnecessarySimpa false
open Go.RowKit Go.Flow

def truth1 (p : Post) (i : Nat) (hour : Int) (k : Nat) : List Int :=
  match takesF (p.routes.getD k ⟨[], false⟩).legs (p.sends.getD i 0) hour with
  | some z => z
  | none => if (p.routes.getD k ⟨[], false⟩).lossy then [] else (takesF (p.routes.getD k ⟨[], false⟩).legs (p.sends.getD i 0) (lastH (hrF p i k))).getD []
def truthRow (p : Post) (i : Nat) (hour : Int) : List (List Int) := (List.range p.routes.length).map (truth1 p i hour)
def truthF (p : Post) (hours : List Int) : List (List (List Int)) := (List.range hours.length).map fun i => truthRow p i (hours.getD i 0)
theorem takes0 (al : Option Addr) (ca : Nat) (legs : List Leg) (lossy : Bool) (hour : Int) (ln : legs.length ≤ 3) (hok : legs.all legOk = true) (sm : ∀ l ∈ legs, l.asl.length ≤ 1000) (s : Int) (w : World) (h0 : 0 ≤ s) (h1 : s ≤ 30) (hl : LegsAt w al legs) :
    Calls Try.prog 109 #[.agg #[.slice al legs.length ca, .bool lossy], .int .i64 0, .int .i64 s, .int .i64 hour] w fun e w' => (∃ v, e = .returned v ∧ TakesV w.heap.size (takesF legs s hour) v w') ∧ Below w.heap.size w w' :=
  takes_any al ca legs lossy hour ln hok sm legs.length 0 (by omega) s w h0 (by omega) hl
theorem last_bd {p : Post} (h0 : postErr p = 0) {i k : Nat} (hi : i < p.sends.length) (hk : k < p.routes.length) : 0 ≤ lastH (hrF p i k) ∧ lastH (hrF p i k) ≤ 100 := by
  obtain ⟨m, h1, _, h3, _⟩ := lastH_spec (post_ne h0 hi k hk)
  omega
def RetT (B : Nat) (t : List (List (List Int))) (n : Nat) (e : Ending) (w' : World) : Prop := ∃ a c, e = .returned (.slice a n c) ∧ TruthOwn B w' (a, c) t n

set_option maxRecDepth 100000 in
set_option maxHeartbeats 8000000 in
theorem truth_any (a : Option Addr) (c : Nat) (ar : Option Addr) (cr : Nat) (p : Post) (Bw : Nat) (ah : Option Addr) (hours : List Int) (ch : Nat) (w : World) (hw : WorkAt p a c ar cr Bw w) (hs : IntsAt w a p.sends) (hr : RoutesAt w ar p.routes) (hx : IntsAt w ah hours) (H0 : Hid (postErr p = 0)) (hn : hours.length ≤ p.sends.length) :
    Calls Try.prog 86 #[.pointer (some ⟨Bw, 0, none⟩), .slice ah hours.length ch] w fun e w' => RetT w.heap.size (truthF p hours) hours.length e w' ∧ Below w.heap.size w w' := by
  have lS := (postErr_ok H0.out).1
  have lR := (postErr_ok H0.out).2.1
  have HLG := Lib.hid (post_legs H0.out)
  have hhs := Lib.hid (post_hours H0.out)
  have hh := fun i k (hi : i < p.sends.length) (hk : k < p.routes.length) => post_ne H0.out hi k hk
  have Hlast := Lib.hid (fun i k (hi : i < p.sends.length) (hk : k < p.routes.length) => last_bd H0.out hi hk)
  obtain ⟨Bm, nm, cW, hH⟩ := hw
  have q0 := cW.cell 0
  have q1 := cW.cell 1
  have q3 := cW.cell 3
  have lW := cW.lt
  simp at q0 q1 q3
  go_enter Try.func86, Try.ntmps86
  go_wp2
  go_loopw [4, 14] (fun v u wr => ∃ (i : Nat) (a' : Option Addr) (c' : Nat), i ≤ hours.length ∧ u = .int .i64 i ∧ v = .slice a' i c' ∧ TruthOwn w.heap.size wr (a', c') (truthF p hours) i ∧ Below w.heap.size w wr) (fun _ u _ => hours.length - (intOf u).toNat)
  case atStart => exact ⟨0, none, 0, Nat.zero_le _, rfl, rfl, NestOwn.nil _ _ _, Below.refl _ _⟩
  case round =>
    obtain ⟨i, a', c', hi, rfl, rfl, hT, hb⟩ := hrel
    have zb := hb.size
    by_cases hih : i < hours.length
    · have hiI : (i : Int) < (hours.length : Int) := by omega
      have hil : i < p.sends.length := by omega
      have hiS : (i : Int) < (p.sends.length : Int) := by omega
      obtain ⟨bH, offH, rfl, hbH, h00⟩ := (hx.below hb) i hih
      have h0' : wr.cell? ⟨bH, offH + i, none⟩ = some (.int .i64 hours[i]) := h00.trans (by simp [hih])
      have HxT : Hid ((truthF p hours)[i]? = some (truthRow p i hours[i])) := Lib.hid (by unfold truthF; simp [hih])
      obtain ⟨hour, hhour⟩ : ∃ x, hours[i] = x := ⟨_, rfl⟩
      rw [hhour] at h0' HxT
      clear hhour h00
      have lrow : (truthRow p i hour).length = p.routes.length := by unfold truthRow; simp
      have Hlrow := Lib.hid lrow
      clear lrow
      obtain ⟨bS, offS, rfl, hbS, s00⟩ := (hs.below hb) i hil
      have s01 : wr.cell? ⟨bS, offS + i, none⟩ = some (.int .i64 p.sends[i]) := s00.trans (by simp [hil])
      have sb := hhs.out.s _ (List.getElem_mem hil)
      have Hsg : Hid (p.sends.getD i 0 = p.sends[i]) := Lib.hid (by simp [hil])
      obtain ⟨s, hse⟩ : ∃ x, p.sends[i] = x := ⟨_, rfl⟩
      rw [hse] at s01 sb Hsg
      clear hse s00
      have d1 := below_cell hb q1
      have ld1 := cell_ltK d1
      go_wp2
      obtain ⟨Wo, hWo⟩ : ∃ z : World, z = wr := ⟨_, rfl⟩
      subst hWo
      go_loopw [7, 25] (fun v u wq => ∃ (j : Nat) (a6 : Option Addr) (c6 : Nat), j ≤ p.routes.length ∧ u = .int .i64 j ∧ v = .slice a6 j c6 ∧ ListsOwn Wo.heap.size wq (a6, c6) (truthRow p i hour) j ∧ Below Wo.heap.size Wo wq) (fun _ u _ => p.routes.length - (intOf u).toNat)
      case atStart => exact ⟨0, none, 0, Nat.zero_le _, rfl, rfl, NestOwn.nil _ _ _, Below.refl _ _⟩
      case round =>
        obtain ⟨j, a6, c6, hj, rfl, rfl, hJ, hb2⟩ := hrel
        have zq := hb2.size
        have tq := hb.trans (hb2.mono zb)
        by_cases hjl : j < p.routes.length
        · have hjI : (j : Int) < (p.routes.length : Int) := by omega
          obtain ⟨bR, offR, al, ca, rfl, hbR, e0, e1, eL⟩ := (hr.below tq) j hjl
          have lo3 := HLG.out p.routes[j] (List.getElem_mem hjl)
          have lastb := Hlast.out i j hil hjl
          have Hx0 : Hid ((truthRow p i hour)[j]? = some (match takesF p.routes[j].legs s hour with | some z => z | none => if p.routes[j].lossy then [] else (takesF p.routes[j].legs s (lastH (hrF p i j))).getD [])) := Lib.hid (by
            unfold truthRow
            rw [List.getElem?_map, List.getElem?_range hjl]
            simp only [Option.map_some, truth1]
            rw [show p.routes.getD j ⟨[], false⟩ = p.routes[j] by simp [hjl], Hsg.out])
          obtain ⟨Sb, hrun, hSC⟩ := (hH.below tq).look i j ⟨hil, hjl⟩ (by omega) (by omega)
          obtain ⟨r, hre⟩ : ∃ x, p.routes[j] = x := ⟨_, rfl⟩
          rw [hre] at e0 e1 eL lo3 Hx0
          clear hre
          obtain ⟨l3, lok, las⟩ := lo3
          have Hlok := Lib.hid lok
          have Hlas := Lib.hid las
          clear lok las
          have pq0 := below_cell tq q0
          have pq3 := below_cell tq q3
          have lpq := cell_ltK pq0
          have s0' := below_cell hb2 s01
          have ls0 := cell_ltK s0'
          obtain ⟨ly, hly⟩ : ∃ x, r.lossy = x := ⟨_, rfl⟩
          rw [hly] at e1 Hx0
          clear hly
          go_wp2
          obtain ⟨Wr, hWr⟩ : ∃ z : World, z = wr.alloc (.cells #[.slice al r.legs.length ca, .bool ly] 108) := ⟨_, rfl⟩
          have bR' : Below wr.heap.size wr Wr := by rw [hWr]; exact (Below.refl _ _).alloc (Nat.le_refl _) _
          have RR : Cells Wr wr.heap.size #[.slice al r.legs.length ca, .bool ly] 108 := by rw [hWr]; exact Cells.new _ _ _
          rw [← hWr]
          clear hWr e0 e1 hbR
          have zR := bR'.size
          have htk := fun X (b : Below Wr.heap.size Wr X) => takes0 al ca r.legs ly hour l3 Hlok.out Hlas.out s X (by omega) (by omega) ((eL.below bR').below b)
          have hzl := takesF_len r.legs s hour
          obtain ⟨o, ho⟩ : ∃ o, takesF r.legs s hour = o := ⟨_, rfl⟩
          rw [ho] at htk Hx0 hzl
          have Hzl := Lib.hid hzl
          clear ho hzl
          have r0 := RR.cell 0
          have r1 := RR.cell 1
          have lr := RR.lt
          have v0 := below_cell bR' pq0
          have lv0 := cell_ltK v0
          have u1 := below_cell bR' s0'
          have lu1 := cell_ltK u1
          simp at r0 r1
          (refine wp_region_seq 16 [] [] 84 [true, true, true, true, true, true, true, true, true, true, false, false, false, false, false, false] [TakesV Wr.heap.size o, TakesV Wr.heap.size o, SlcV Wr.heap.size o, IsV o, SlcV Wr.heap.size o, IsV o] (by kernel_rfl) (by kernel_rfl) rfl (mono_cons (fun v w w' h hb => h.kept hb) (mono_cons (fun v w w' h hb => h.kept hb) (mono_cons (fun v w w' h hb => h.kept hb) (mono_cons (fun v w w' h hb => h.kept hb) (mono_cons (fun v w w' h hb => h.kept hb) (mono_cons (fun v w w' h hb => h.kept hb) mono_nil)))))) ?_; simp only [pickOps, List.filterMap_cons, List.filterMap_nil, List.getElem?_toArray, List.getElem?_cons_succ, List.getElem?_cons_zero]; (repeat (refine wpFl_step _ rfl (fun w => (by go_simp; rfl)) ?_)); refine wpFl_nil ?_; simp only [maskOps, dummy, Act.put, List.setIfInBounds_toArray, List.set_cons_zero, List.set_cons_succ, List.take_succ_cons, List.take_zero, List.drop_succ_cons, List.drop_zero]; (repeat (refine wpQB_step (fun K hK => ?_); go_simp; first | (refine hK _ ?_; clear hK K) | (apply Exists.intro; refine ⟨fun ex => ?_, hK _ ?_⟩; (fail); clear hK K))); refine wpQB_nil ?_; simp only [relObl2, under, relEnd, and_true, List.nil_append, List.cons_append])
          refine ⟨⟨?_, ?_, ?_, ?_, ?_, ?_⟩, ?_⟩
          · intro e
            go_simp
            refine (htk _ e.below).mono ?_
            rintro _ _ ⟨⟨v, rfl, hv⟩, hb⟩
            exact ⟨hb, hv.base_le e.size⟩
          · intro e v1 h1
            go_simp
            exact ⟨Below.refl _ _, h1 (by kernel_rfl)⟩
          · intro e v1 _ v2 h2
            have h2' := h2 (by kernel_rfl)
            cases o with
            | none =>
              obtain rfl : v2 = .tuple #[.slice none 0 0, .bool false] := h2'
              go_simp
              exact ⟨Below.refl _ _, rfl⟩
            | some z =>
              obtain ⟨a, c, rfl, ho⟩ := h2'
              go_simp
              exact ⟨Below.refl _ _, a, c, rfl, ho⟩
          · intro e v1 _ v2 h2 v3 _
            have h2' := h2 (by kernel_rfl)
            cases o with
            | none =>
              obtain rfl : v2 = .tuple #[.slice none 0 0, .bool false] := h2'
              go_simp
              exact ⟨Below.refl _ _, rfl⟩
            | some z =>
              obtain ⟨a, c, rfl, ho⟩ := h2'
              go_simp
              exact ⟨Below.refl _ _, rfl⟩
          · intro e v1 _ v2 _ v3 h3 v4 _
            go_simp
            exact ⟨Below.refl _ _, h3 (by kernel_rfl)⟩
          · intro e v1 _ v2 _ v3 _ v4 h4 v5 _
            go_simp
            exact ⟨Below.refl _ _, h4 (by kernel_rfl)⟩
          intro e
          rintro v1 - v2 - v3 - v4 - v5 hv v6 hv6
          simp only [Act.put, List.setIfInBounds_toArray, List.set_cons_zero, List.set_cons_succ]
          have he8 := e.below
          obtain ⟨W8, hW8⟩ : ∃ x : World, x = e.to := ⟨_, rfl⟩
          rw [← hW8] at he8 hv hv6 ⊢
          clear hW8 e htk r0 r1 lr v0 lv0 u1 lu1
          have z8 := he8.size
          have R8 := RR.below he8
          have b8 := bR'.trans (he8.mono bR'.size)
          have hz1 := R8.lt
          cases o with
          | some z =>
            obtain ⟨az, cz, rfl, oz⟩ := hv
            obtain rfl : v6 = .bool true := hv6
            have hz3 : z.length ≤ 3 := by have := Hzl.out z rfl; omega
            have Hx : Hid ((truthRow p i hour)[j]? = some z) := Lib.hid Hx0.out
            have ho' : IntsOwn Wo.heap.size W8 (az, cz) z := OwnL.base_le oz (by omega)
            have b9 := b8
            have hJ9 := hJ.kept b9
            obtain ⟨ps, hps, hown, hsub⟩ := hJ9
            go_wp2_with (at_builtin; refine wpList_app_g el_lists rfl _ _ rfl Wo.heap.size a6 j c6 _ rfl (hown.alloc _) (some ⟨W8.heap.size, 0, none⟩) 1 1 [.slice az z.length cz] rfl (fun h => by cases h) rfl (Cells.src (Cells.new _ _ _)) (fun u hu => by simp at hu; subst hu; rfl) (by unfold maxLen; omega) (by omega) (by simp; omega) ?_; intro a7 c7 w7 hown7 hb7 hg7)
            have hgA : ∀ {p : Option Addr × Nat} {y : List Int}, IntsOwn Wo.heap.size W8 p y → IntsOwn Wo.heap.size w7 p y := fun {p y} h => OwnL.grown (OwnL.alloc (show OwnL 3 1 Wo.heap.size W8 p.1 p.2 y.length (y.map (Value.int .i64)) from h) _) hg7 (OwnL.apart (by decide) h hown)
            go_roundw
            case rel => exact ⟨j + 1, a7, c7, by omega, by go_num, rfl, NestOwn.snoc hps Hx.out (az, cz) (by unfold sv; exact hown7) (fun q y p h1 h2 => hgA (hsub q y p h1 h2)) (hgA ho'), hb2.trans ((b9.mono zq).trans ((((Below.refl _ _).alloc (Nat.le_refl _) _).mono (by omega)).trans hb7))⟩
            case measure => simp [intOf]; omega
          | none =>
            obtain rfl : v5 = .slice none 0 0 := hv
            obtain rfl : v6 = .bool false := hv6
            have w1 := R8.cell 1
            simp at w1
            cases ly
            · have Hx2 : Hid ((truthRow p i hour)[j]? = some ((takesF r.legs s (lastH (hrF p i j))).getD [])) := Lib.hid Hx0.out
              clear Hx0
              clear hz1
              have hrun' := fun (e : Ext W8) => hrun ⟨e.to, b8.trans (e.below.mono b8.size)⟩
              dsimp only at hrun'
              obtain ⟨z, hz⟩ : ∃ z, lastH (hrF p i j) = z := ⟨_, rfl⟩
              have hzb := lastb
              rw [hz] at hzb Hx2
              have hl := fun X (b : Below W8.heap.size W8 X) => last_any Sb (hrF p i j) z (Lib.hid hz) X ((hSC.below b8).below b) (hh i j hil hjl)
              clear hz lastb
              have htk2 := fun X (b : Below W8.heap.size W8 X) => takes0 al ca r.legs false z l3 Hlok.out Hlas.out s X (by omega) (by omega) ((eL.below b8).below b)
              obtain ⟨o2, ho2⟩ : ∃ o, takesF r.legs s z = o := ⟨_, rfl⟩
              rw [ho2] at htk2 Hx2
              have hzl2 := takesF_len r.legs s z
              rw [ho2] at hzl2
              have Hzl2 := Lib.hid hzl2
              clear ho2 hzl2
              have y0 := R8.cell 0
              have y1 := R8.cell 1
              have ly8 := R8.lt
              have x0 := below_cell b8 pq0
              have x3 := below_cell b8 pq3
              have lx8 := cell_ltK x0
              have u0 := below_cell b8 s0'
              have lu8 := cell_ltK u0
              simp at y0 y1
              go_wp2
              (refine wp_region_seq 23 [] [] 84 [true, true, true, true, true, true, true, true, true, true, true, true, true, true, true, true, true, true, false, false, false, false, false] [TakesV W8.heap.size o2, TakesV W8.heap.size o2, SlcV W8.heap.size o2, IsV o2, SlcV W8.heap.size o2] (by kernel_rfl) (by kernel_rfl) rfl (mono_cons (fun v w w' h hb => h.kept hb) (mono_cons (fun v w w' h hb => h.kept hb) (mono_cons (fun v w w' h hb => h.kept hb) (mono_cons (fun v w w' h hb => h.kept hb) (mono_cons (fun v w w' h hb => h.kept hb) mono_nil))))) ?_; simp only [pickOps, List.filterMap_cons, List.filterMap_nil, List.getElem?_toArray, List.getElem?_cons_succ, List.getElem?_cons_zero]; (repeat (refine wpFl_step _ rfl (fun w => (by go_simp; rfl)) ?_)); refine wpFl_nil ?_; simp only [maskOps, dummy, Act.put, List.setIfInBounds_toArray, List.set_cons_zero, List.set_cons_succ, List.take_succ_cons, List.take_zero, List.drop_succ_cons, List.drop_zero]; (repeat (refine wpQB_step (fun K hK => ?_); go_simp; first | (refine hK _ ?_; clear hK K) | (apply Exists.intro; refine ⟨fun ex => ?_, hK _ ?_⟩; ((go_at_call 103; with_reducible exact hl _ ex.below)); clear hK K))); refine wpQB_nil ?_; simp only [relObl2, under, relEnd, and_true, List.nil_append, List.cons_append])
              refine ⟨⟨?_, ?_, ?_, ?_, ?_⟩, ?_⟩
              · intro e
                go_simp
                refine (htk2 _ e.below).mono ?_
                rintro _ _ ⟨⟨v, rfl, hv⟩, hb⟩
                exact ⟨hb, hv.base_le e.size⟩
              · intro e v1 h1
                go_simp
                exact ⟨Below.refl _ _, h1 (by kernel_rfl)⟩
              · intro e v1 _ v2 h2
                have h2' := h2 (by kernel_rfl)
                cases o2 with
                | none =>
                  obtain rfl : v2 = .tuple #[.slice none 0 0, .bool false] := h2'
                  go_simp
                  exact ⟨Below.refl _ _, rfl⟩
                | some z =>
                  obtain ⟨a, c, rfl, ho⟩ := h2'
                  go_simp
                  exact ⟨Below.refl _ _, a, c, rfl, ho⟩
              · intro e v1 _ v2 h2 v3 _
                have h2' := h2 (by kernel_rfl)
                cases o2 with
                | none =>
                  obtain rfl : v2 = .tuple #[.slice none 0 0, .bool false] := h2'
                  go_simp
                  exact ⟨Below.refl _ _, rfl⟩
                | some z =>
                  obtain ⟨a, c, rfl, ho⟩ := h2'
                  go_simp
                  exact ⟨Below.refl _ _, rfl⟩
              · intro e v1 _ v2 _ v3 h3 v4 _
                go_simp
                exact ⟨Below.refl _ _, h3 (by kernel_rfl)⟩
              intro e
              rintro v1 - v2 - v3 - v5 - v4 hv4
              simp only [Act.put, List.setIfInBounds_toArray, List.set_cons_zero, List.set_cons_succ]
              have he9 := e.below
              obtain ⟨W9, hW9⟩ : ∃ x : World, x = e.to := ⟨_, rfl⟩
              rw [← hW9] at he9 hv4 ⊢
              clear hW9 e hl htk2 hrun' y0 y1 ly8 x0 x3 lx8 u0 lu8
              have z9 := he9.size
              have b9 := b8.trans (he9.mono b8.size)
              cases o2 with
              | none =>
                obtain rfl : v4 = .slice none 0 0 := hv4
                have Hx : Hid ((truthRow p i hour)[j]? = some []) := Lib.hid Hx2.out
                have ho' : IntsOwn Wo.heap.size W9 (none, 0) [] := OwnL.nil _ _ _ _
                have hJ9 := hJ.kept b9
                obtain ⟨ps, hps, hown, hsub⟩ := hJ9
                go_wp2_with (at_builtin; refine wpList_app_g el_lists rfl _ _ rfl Wo.heap.size a6 j c6 _ rfl (hown.alloc _) (some ⟨W9.heap.size, 0, none⟩) 1 1 [.slice none 0 0] rfl (fun h => by cases h) rfl (Cells.src (Cells.new _ _ _)) (fun u hu => by simp at hu; subst hu; rfl) (by unfold maxLen; omega) (by omega) (by simp; omega) ?_; intro a7 c7 w7 hown7 hb7 hg7)
                have hgA : ∀ {p : Option Addr × Nat} {y : List Int}, IntsOwn Wo.heap.size W9 p y → IntsOwn Wo.heap.size w7 p y := fun {p y} h => OwnL.grown (OwnL.alloc (show OwnL 3 1 Wo.heap.size W9 p.1 p.2 y.length (y.map (Value.int .i64)) from h) _) hg7 (OwnL.apart (by decide) h hown)
                go_roundw
                case rel => exact ⟨j + 1, a7, c7, by omega, by go_num, rfl, NestOwn.snoc hps Hx.out (none, 0) (by unfold sv; exact hown7) (fun q y p h1 h2 => hgA (hsub q y p h1 h2)) (hgA ho'), hb2.trans ((b9.mono zq).trans ((((Below.refl _ _).alloc (Nat.le_refl _) _).mono (by omega)).trans hb7))⟩
                case measure => simp [intOf]; omega
              | some z2 =>
                obtain ⟨az, cz, rfl, oz⟩ := hv4
                have hz3 : z2.length ≤ 3 := by have := Hzl2.out z2 rfl; omega
                have Hx : Hid ((truthRow p i hour)[j]? = some z2) := Lib.hid Hx2.out
                have ho' : IntsOwn Wo.heap.size W9 (az, cz) z2 := OwnL.base_le oz (by omega)
                have hJ9 := hJ.kept b9
                obtain ⟨ps, hps, hown, hsub⟩ := hJ9
                go_wp2_with (at_builtin; refine wpList_app_g el_lists rfl _ _ rfl Wo.heap.size a6 j c6 _ rfl (hown.alloc _) (some ⟨W9.heap.size, 0, none⟩) 1 1 [.slice az z2.length cz] rfl (fun h => by cases h) rfl (Cells.src (Cells.new _ _ _)) (fun u hu => by simp at hu; subst hu; rfl) (by unfold maxLen; omega) (by omega) (by simp; omega) ?_; intro a7 c7 w7 hown7 hb7 hg7)
                have hgA : ∀ {p : Option Addr × Nat} {y : List Int}, IntsOwn Wo.heap.size W9 p y → IntsOwn Wo.heap.size w7 p y := fun {p y} h => OwnL.grown (OwnL.alloc (show OwnL 3 1 Wo.heap.size W9 p.1 p.2 y.length (y.map (Value.int .i64)) from h) _) hg7 (OwnL.apart (by decide) h hown)
                go_roundw
                case rel => exact ⟨j + 1, a7, c7, by omega, by go_num, rfl, NestOwn.snoc hps Hx.out (az, cz) (by unfold sv; exact hown7) (fun q y p h1 h2 => hgA (hsub q y p h1 h2)) (hgA ho'), hb2.trans ((b9.mono zq).trans ((((Below.refl _ _).alloc (Nat.le_refl _) _).mono (by omega)).trans hb7))⟩
                case measure => simp [intOf]; omega
            · have Hx : Hid ((truthRow p i hour)[j]? = some []) := Lib.hid Hx0.out
              have ho' : IntsOwn Wo.heap.size W8 (none, 0) [] := OwnL.nil _ _ _ _
              have b9 := b8
              have hJ9 := hJ.kept b9
              obtain ⟨ps, hps, hown, hsub⟩ := hJ9
              go_wp2_with (at_builtin; refine wpList_app_g el_lists rfl _ _ rfl Wo.heap.size a6 j c6 _ rfl (hown.alloc _) (some ⟨W8.heap.size, 0, none⟩) 1 1 [.slice none 0 0] rfl (fun h => by cases h) rfl (Cells.src (Cells.new _ _ _)) (fun u hu => by simp at hu; subst hu; rfl) (by unfold maxLen; omega) (by omega) (by simp; omega) ?_; intro a7 c7 w7 hown7 hb7 hg7)
              have hgA : ∀ {p : Option Addr × Nat} {y : List Int}, IntsOwn Wo.heap.size W8 p y → IntsOwn Wo.heap.size w7 p y := fun {p y} h => OwnL.grown (OwnL.alloc (show OwnL 3 1 Wo.heap.size W8 p.1 p.2 y.length (y.map (Value.int .i64)) from h) _) hg7 (OwnL.apart (by decide) h hown)
              go_roundw
              case rel => exact ⟨j + 1, a7, c7, by omega, by go_num, rfl, NestOwn.snoc hps Hx.out (none, 0) (by unfold sv; exact hown7) (fun q y p h1 h2 => hgA (hsub q y p h1 h2)) (hgA ho'), hb2.trans ((b9.mono zq).trans ((((Below.refl _ _).alloc (Nat.le_refl _) _).mono (by omega)).trans hb7))⟩
              case measure => simp [intOf]; omega
        · obtain rfl : j = p.routes.length := by omega
          have hT2 := hT.kept hb2
          obtain ⟨ps, hps, hown, hsub⟩ := hT2
          have hJ' : ListsOwn w.heap.size wr (a6, c6) (truthRow p i hour) (truthRow p i hour).length := by rw [Hlrow.out]; exact hJ.base_le zb
          have wA : ∀ o, Below wr.heap.size wr (wr.alloc o) := fun o => (Below.refl _ _).alloc (Nat.le_refl _) _
          go_wp2_with (at_builtin; refine wpList_app_g el_truths rfl _ _ rfl w.heap.size a' i c' _ rfl (hown.alloc _) (some ⟨wr.heap.size, 0, none⟩) 1 1 [.slice a6 p.routes.length c6] rfl (fun h => by cases h) rfl (Cells.src (Cells.new _ _ _)) (fun u hu => by simp at hu; subst hu; rfl) (by unfold maxLen; omega) (by omega) (by simp; omega) ?_; intro a7 c7 w7 hown7 hb7 hg7)
          have hgI : ∀ o {p : Option Addr × Nat} {y : List Int}, (wr.alloc o).grownBy w7 (Value.slice a' i c').ownBlock → IntsOwn w.heap.size wr p y → IntsOwn w.heap.size w7 p y := fun o {p y} hg7 h => OwnL.grown (OwnL.alloc h o) hg7 (OwnL.apart (by decide) h hown)
          have hgL : ∀ {p : Option Addr × Nat} {y : List (List Int)}, ListsOwn w.heap.size wr p y y.length → ListsOwn w.heap.size w7 p y y.length := fun {p y} h => by
            obtain ⟨qs, q1, q2, q3⟩ := h
            exact ⟨qs, q1, OwnL.grown (OwnL.alloc q2 _) hg7 (OwnL.apart (by decide) q2 hown), fun q x p hx hp => hgI _ hg7 (q3 q x p hx hp)⟩
          go_roundw
          case rel => exact ⟨i + 1, a7, c7, by omega, by go_num, rfl, NestOwn.snoc hps HxT.out (a6, c6) (by unfold sv; simp only [Hlrow.out]; exact hown7) (fun q y p h1 h2 => hgL (hsub q y p h1 h2)) (hgL hJ'), ((hb.trans (hb2.mono zb)).trans ((wA _).mono (by omega))).trans hb7⟩
          case measure => simp [intOf]; omega
    · obtain rfl : i = hours.length := by omega
      go_wp2
      go_ret
      exact ⟨⟨a', c', rfl, hT⟩, hb⟩
end Go.Proofs.Ytfclemnkcpadpaa

namespace Go.Proofs.Ytfclemnkcpadpaa
set_option linter.unusedVariables false
set_option linter.unusedSimpArgs false
set_option linter.unnecessarySimpa false
open Go.RowKit Go.Flow Go.Shelf

def explErr (p : Post) (l : List Ent) : Int := if bookErr p l ≠ 0 then bookErr p l else if explB p l then 0 else 9
def explOut (p : Post) (l : List Ent) : List (List (List Int)) := if bookErr p l ≠ 0 then [] else match searchF p l with
  | some z => truthF p z
  | none => []
def RetExpl (E : Int) (t : List (List (List Int))) (e : Ending) (w' : World) : Prop := ∃ a c, e = .returned (.tuple #[.slice a t.length c, .int .i64 E]) ∧ TruthAt w' a t ∧ (a = none → c = 0)
theorem nextR_len {p : Post} {l : List Ent} : ∀ (r i : Nat) (f : Int) (z : List Int), nextR p l r i f = some z → z.length = r
  | 0, i, f, z, h => by rw [nextR] at h; cases h; rfl
  | r + 1, i, f, z, h => by
    rw [nextR] at h
    obtain ⟨j, _, hj⟩ := List.exists_of_findSome?_eq_some h
    split at hj
    · rw [Option.map_eq_some_iff] at hj
      obtain ⟨y, hy, rfl⟩ := hj
      rw [List.length_cons, nextR_len r (i + 1) _ y hy]
    · cases hj
theorem truthF_len (p : Post) (z : List Int) : (truthF p z).length = z.length := by simp [truthF]
set_option maxRecDepth 100000 in
set_option maxHeartbeats 4000000 in
theorem explain_a1 (a : Option Addr) (c : Nat) (ar : Option Addr) (cr : Nat) (p : Post) (al : Option Addr) (l : List Ent) (cl : Nat) (w : World) (hs : IntsAt w a p.sends) (hr : RoutesAt w ar p.routes) (sm : PostSmall p) (he : EntsAt w al l) (hl : l.length ≤ 1000) (E : Int) (hE : bookErr p l = E) (hne : E ≠ 0) :
    Calls Try.prog 48 #[.agg #[.slice a p.sends.length c, .slice ar p.routes.length cr, .int .i64 p.pat], .slice al l.length cl] w fun e w' => RetExpl E [] e w' ∧ Below w.heap.size w w' := by
  have bk := fun W (b : Below w.heap.size w W) => booked_any a c ar cr p al l cl W (hs.below b) (hr.below b) sm (he.below b) (by omega)
  rw [hE] at bk
  have hne1 : (E != 0) = true := by simpa using hne
  have hbd : 0 ≤ E ∧ E ≤ 3 := by rw [← hE]; exact bookErr_bd p l
  obtain ⟨W0, hW0⟩ : ∃ z : World, z = w.alloc (.cells #[.slice a p.sends.length c, .slice ar p.routes.length cr, .int .i64 p.pat] 34) := ⟨_, rfl⟩
  have t0 : Below w.heap.size w W0 := by rw [hW0]; exact (Below.refl _ _).alloc (Nat.le_refl _) _
  have C0 : Cells W0 w.heap.size #[.slice a p.sends.length c, .slice ar p.routes.length cr, .int .i64 p.pat] 34 := by rw [hW0]; exact Cells.new _ _ _
  clear hE
  go_enter Try.func48, Try.ntmps48
  go_wp2_with fail
  rw [← hW0]
  clear hW0
  go_at_call 78
  with_reducible refine (bk _ t0).mono ?_
  rintro e w1 ⟨rfl, hb1⟩
  have t1 : Below w.heap.size w w1 := t0.trans (hb1.mono t0.size)
  have C1 := C0.below hb1
  have k0 := C1.cell 0
  have k1 := C1.cell 1
  have k2 := C1.cell 2
  have lC := C1.lt
  simp at k0 k1 k2
  clear bk C0
  go_wp2_with fail
  go_ret2
  exact ⟨⟨none, 0, rfl, TruthAt.nil _ _, fun _ => rfl⟩, t1⟩

set_option maxRecDepth 100000 in
set_option maxHeartbeats 4000000 in
theorem explain_a2 (a : Option Addr) (c : Nat) (ar : Option Addr) (cr : Nat) (p : Post) (al : Option Addr) (l : List Ent) (cl : Nat) (w : World) (hs : IntsAt w a p.sends) (hr : RoutesAt w ar p.routes) (sm : PostSmall p) (he : EntsAt w al l) (hl : l.length ≤ 1000) (hE : bookErr p l = 0) (hz : searchF p l = none) :
    Calls Try.prog 48 #[.agg #[.slice a p.sends.length c, .slice ar p.routes.length cr, .int .i64 p.pat], .slice al l.length cl] w fun e w' => RetExpl 9 [] e w' ∧ Below w.heap.size w w' := by
  have bk := fun W (b : Below w.heap.size w W) => booked_any a c ar cr p al l cl W (hs.below b) (hr.below b) sm (he.below b) (by omega)
  rw [hE] at bk
  obtain ⟨hp0, l8, _⟩ := bookErr_ok hE
  have wrk := fun W (b : Below w.heap.size w W) => work_any a c ar cr p W (hs.below b) (hr.below b) hp0
  have sch := fun Bw W (h : WorkAt p a c ar cr Bw W) (b : Below w.heap.size w W) => search_any p l a c ar cr Bw al cl W h (hs.below b) (hr.below b) (he.below b) hp0 hl
  rw [hz] at sch
  have HP := Lib.hid hp0
  obtain ⟨W0, hW0⟩ : ∃ z : World, z = w.alloc (.cells #[.slice a p.sends.length c, .slice ar p.routes.length cr, .int .i64 p.pat] 34) := ⟨_, rfl⟩
  have t0 : Below w.heap.size w W0 := by rw [hW0]; exact (Below.refl _ _).alloc (Nat.le_refl _) _
  have C0 : Cells W0 w.heap.size #[.slice a p.sends.length c, .slice ar p.routes.length cr, .int .i64 p.pat] 34 := by rw [hW0]; exact Cells.new _ _ _
  clear hE hz hp0
  go_enter Try.func48, Try.ntmps48
  go_wp2_with fail
  rw [← hW0]
  clear hW0
  go_at_call 78
  with_reducible refine (bk _ t0).mono ?_
  rintro e w1 ⟨rfl, hb1⟩
  have t1 : Below w.heap.size w w1 := t0.trans (hb1.mono t0.size)
  have C1 := C0.below hb1
  have k0 := C1.cell 0
  have k1 := C1.cell 1
  have k2 := C1.cell 2
  have lC := C1.lt
  simp at k0 k1 k2
  clear bk C0
  go_wp2_with fail
  go_at_call 70
  with_reducible refine (wrk _ t1).mono ?_
  rintro e w2 ⟨Bw, rfl, hBw, hW, hb2⟩
  have t2 : Below w.heap.size w w2 := t1.trans (hb2.mono t1.size)
  clear k0 k1 k2 lC C1 wrk
  go_wp2_with fail
  go_at_call 80
  refine (sch Bw _ hW t2).mono ?_
  rintro e w3 ⟨hsp, hb3⟩
  obtain rfl : e = .returned (.tuple #[.slice none 0 0, .bool false]) := hsp
  have t3 := t2.trans (hb3.mono t2.size)
  clear sch
  go_wp2_with fail
  go_ret2
  exact ⟨⟨none, 0, rfl, TruthAt.nil _ _, fun _ => rfl⟩, t3⟩

set_option maxRecDepth 100000 in
set_option maxHeartbeats 4000000 in
theorem explain_a3 (a : Option Addr) (c : Nat) (ar : Option Addr) (cr : Nat) (p : Post) (al : Option Addr) (l : List Ent) (cl : Nat) (w : World) (hs : IntsAt w a p.sends) (hr : RoutesAt w ar p.routes) (sm : PostSmall p) (he : EntsAt w al l) (hl : l.length ≤ 1000) (hE : bookErr p l = 0) (z : List Int) (hz : searchF p l = some z) :
    Calls Try.prog 48 #[.agg #[.slice a p.sends.length c, .slice ar p.routes.length cr, .int .i64 p.pat], .slice al l.length cl] w fun e w' => RetExpl 0 (truthF p z) e w' ∧ Below w.heap.size w w' := by
  have bk := fun W (b : Below w.heap.size w W) => booked_any a c ar cr p al l cl W (hs.below b) (hr.below b) sm (he.below b) (by omega)
  rw [hE] at bk
  obtain ⟨hp0, l8, _⟩ := bookErr_ok hE
  have wrk := fun W (b : Below w.heap.size w W) => work_any a c ar cr p W (hs.below b) (hr.below b) hp0
  have sch := fun Bw W (h : WorkAt p a c ar cr Bw W) (b : Below w.heap.size w W) => search_any p l a c ar cr Bw al cl W h (hs.below b) (hr.below b) (he.below b) hp0 hl
  rw [hz] at sch
  have HP := Lib.hid hp0
  have lz : z.length = p.sends.length := nextR_len _ _ _ z hz
  have Htl := Lib.hid (truthF_len p z)
  obtain ⟨nz, hnz⟩ : ∃ n, z.length = n := ⟨_, rfl⟩
  have hnz2 : nz ≤ p.sends.length := by omega
  have Hnz := Lib.hid hnz
  obtain ⟨W0, hW0⟩ : ∃ z : World, z = w.alloc (.cells #[.slice a p.sends.length c, .slice ar p.routes.length cr, .int .i64 p.pat] 34) := ⟨_, rfl⟩
  have t0 : Below w.heap.size w W0 := by rw [hW0]; exact (Below.refl _ _).alloc (Nat.le_refl _) _
  have C0 : Cells W0 w.heap.size #[.slice a p.sends.length c, .slice ar p.routes.length cr, .int .i64 p.pat] 34 := by rw [hW0]; exact Cells.new _ _ _
  clear hE hz hp0 lz hnz
  go_enter Try.func48, Try.ntmps48
  go_wp2_with fail
  rw [← hW0]
  clear hW0
  go_at_call 78
  with_reducible refine (bk _ t0).mono ?_
  rintro e w1 ⟨rfl, hb1⟩
  have t1 : Below w.heap.size w w1 := t0.trans (hb1.mono t0.size)
  have C1 := C0.below hb1
  have k0 := C1.cell 0
  have k1 := C1.cell 1
  have k2 := C1.cell 2
  have lC := C1.lt
  simp at k0 k1 k2
  clear bk C0
  go_wp2_with fail
  go_at_call 70
  with_reducible refine (wrk _ t1).mono ?_
  rintro e w2 ⟨Bw, rfl, hBw, hW, hb2⟩
  have t2 : Below w.heap.size w w2 := t1.trans (hb2.mono t1.size)
  clear k0 k1 k2 lC C1 wrk
  go_wp2_with fail
  go_at_call 80
  refine (sch Bw _ hW t2).mono ?_
  rintro e w3 ⟨⟨az, cz, rfl, iz⟩, hb3⟩
  have t3 := t2.trans (hb3.mono t2.size)
  have hW3 := hW.below hb3
  have htr := truth_any a c ar cr p Bw az z cz w3 hW3 (hs.below t3) (hr.below t3) iz HP (by rw [Hnz.out]; exact hnz2)
  rw [Hnz.out] at htr ⊢
  clear sch
  go_wp2_with fail
  go_at_call 86
  refine htr.mono ?_
  rintro e w4 ⟨⟨a4, c4, rfl, o4⟩, hb4⟩
  go_wp2_with fail
  go_ret2
  have o4' : TruthOwn w3.heap.size w4 (a4, c4) (truthF p z) (truthF p z).length := by rw [Htl.out, Hnz.out]; exact o4
  exact ⟨⟨a4, c4, by rw [Htl.out, Hnz.out]; rfl, TruthOwn.at o4', fun h => by subst h; exact (NestOwn.isnil o4).2⟩, t3.trans (hb4.mono t3.size)⟩

theorem explain_eq (a : Option Addr) (c : Nat) (ar : Option Addr) (cr : Nat) (p : Post) (al : Option Addr) (l : List Ent) (cl : Nat) (w : World) (E : Int) (t : List (List (List Int))) (n : Nat) (hE : Hid (explErr p l = E)) (ht : Hid (explOut p l = t)) (hn : Hid (t.length = n)) (hs : IntsAt w a p.sends) (hr : RoutesAt w ar p.routes) (sm : Hid (PostSmall p)) (he : EntsAt w al l) (hl : l.length ≤ 1000) :
    Calls Try.prog 48 #[.agg #[.slice a p.sends.length c, .slice ar p.routes.length cr, .int .i64 p.pat], .slice al l.length cl] w fun e w' => (∃ a c, e = .returned (.tuple #[.slice a n c, .int .i64 E]) ∧ TruthAt w' a t ∧ (a = none → c = 0)) ∧ Below w.heap.size w w' := by
  rw [← hn.out, ← ht.out, ← hE.out]
  clear hn ht hE
  show Calls _ _ _ _ fun e w' => RetExpl (explErr p l) (explOut p l) e w' ∧ _
  by_cases h0 : bookErr p l = 0
  · cases hz : searchF p l with
    | none =>
      rw [show explErr p l = 9 by unfold explErr explB; rw [if_neg (by simpa using h0), hz]; rfl, show explOut p l = [] by unfold explOut; rw [if_neg (by simpa using h0), hz]]
      exact explain_a2 a c ar cr p al l cl w hs hr sm.out he hl h0 hz
    | some z =>
      rw [show explErr p l = 0 by unfold explErr explB; rw [if_neg (by simpa using h0), hz]; rfl, show explOut p l = truthF p z by unfold explOut; rw [if_neg (by simpa using h0), hz]]
      exact explain_a3 a c ar cr p al l cl w hs hr sm.out he hl h0 z hz
  · rw [show explErr p l = bookErr p l by unfold explErr; rw [if_pos h0], show explOut p l = [] by unfold explOut; rw [if_pos h0]]
    exact explain_a1 a c ar cr p al l cl w hs hr sm.out he hl _ rfl h0
end Go.Proofs.Ytfclemnkcpadpaa

namespace Go.Proofs.Ytfclemnkcpadpaa
set_option linter.unusedVariables false
set_option linter.unusedSimpArgs false
set_option linter.unnecessarySimpa false
open Go.RowKit Go.Flow Go.Shelf

def explOk (j : List Ent) (e : Ent) : Bool := decide (j.getD e.num.toNat ⟨0, 0, false⟩ = e)
def explsB (p : Post) (t : List (List (List Int))) (l : List Ent) : Bool := l.all (explOk (playF p t))
def proveB (p : Post) (t : List (List (List Int))) (l : List Ent) : Bool := decide (bookErr p l = 0) && decide (shapeErr p t = 0) && explsB p t l
theorem bookErr_ok' {p : Post} {l : List Ent} (h : bookErr p l = 0) : postErr p = 0 ∧ l.length ≤ 8 ∧ l.all (entOk p.sends.length) = true := by
  unfold bookErr at h
  split at h
  · rename_i h1; exact absurd h h1
  · rename_i h1
    split at h
    · cases h
    · rename_i h2
      split at h
      · rename_i h3; exact ⟨by simpa using h1, by omega, h3⟩
      · cases h
set_option maxHeartbeats 2000000 in
theorem explOk_meets (aj : Option Addr) (j : List Ent) (n c B : Nat) (w : World) (hc : w.cell? ⟨B, 0, none⟩ = some (.slice aj n c)) (hj : EntsAt w aj j) (hn : Hid (j.length = n)) (hl : n ≤ 1000) (e : Ent) (h0 : 0 ≤ e.num) (h1 : e.num < (n : Int)) :
    Meets Try.prog w 88 #[] #[.pointer (some ⟨B, 0, none⟩)] (.agg #[.int .i64 e.num, .int .i64 e.at_, .bool e.skip]) (explOk j e) := by
  intro w' hb'
  have hc' := below_cell hb' hc
  have lB := cell_ltK hc'
  obtain ⟨e0, e1, e2⟩ := e
  simp only at h0 h1
  obtain ⟨m, rfl⟩ : ∃ m : Nat, e0 = (m : Int) := ⟨e0.toNat, by omega⟩
  have hm : m < j.length := by rw [hn.out]; omega
  have hmI : (m : Int) < (n : Int) := h1
  obtain ⟨b, off, rfl, hb, z0, z1, z2⟩ := (hj.below hb') m hm
  have He : Hid (explOk j ⟨(m : Int), e1, e2⟩ = decide (j[m] = ⟨(m : Int), e1, e2⟩)) := Lib.hid (by unfold explOk; simp [hm])
  obtain ⟨⟨x0, x1, x2⟩, hx⟩ : ∃ x, j[m] = x := ⟨_, rfl⟩
  rw [hx] at z0 z1 z2 He
  simp only at z0 z1 z2
  clear hx hc hj h0
  show Calls Try.prog 88 #[.agg #[.int .i64 (m : Int), .int .i64 e1, .bool e2], .pointer (some ⟨B, 0, none⟩)] w' _
  by_cases c0 : x0 = (m : Int)
  · by_cases c1 : x1 = e1
    · by_cases c2 : x2 = e2
      · subst c0 c1 c2
        have He2 : Hid (explOk j ⟨(m : Int), x1, x2⟩ = true) := Lib.hid (by rw [He.out]; simp)
        clear He
        go_enter Try.func88, Try.ntmps88
        go_wp2
        (refine wp_region_ext 8 (by kernel_rfl) (by kernel_rfl) ?_; simp only [List.take_succ_cons, List.take_zero, List.drop_succ_cons, List.drop_zero]; (repeat (go_big_quiet_step ((fail)))); refine wpQuiet_nil ?_; rintro _ ⟨ex, rfl⟩; have hex := ex.below; have hexz := ex.size; (try simp at hexz); (try (have hy0 : w.heap.size < ex.to.heap.size := by omega)); (try (have hy1 : w.heap.size + 1 < ex.to.heap.size := by omega)); (try (have hy2 : w.heap.size + 2 < ex.to.heap.size := by omega)))
        go_wp2
        go_ret
        rw [He2.out]
        exact ⟨rfl, by have := ex.below; exact ((Below.refl _ _).alloc (Nat.le_refl _) _).trans (this.mono (by simp))⟩
      · have He2 : Hid (explOk j ⟨(m : Int), e1, e2⟩ = false) := Lib.hid (by rw [He.out]; simp [c2])
        have t2 : (x2 == e2) = false := by simpa using c2
        subst c0 c1
        clear He
        go_enter Try.func88, Try.ntmps88
        go_wp2
        (refine wp_region_ext 8 (by kernel_rfl) (by kernel_rfl) ?_; simp only [List.take_succ_cons, List.take_zero, List.drop_succ_cons, List.drop_zero]; (repeat (go_big_quiet_step ((fail)))); refine wpQuiet_nil ?_; rintro _ ⟨ex, rfl⟩; have hex := ex.below; have hexz := ex.size; (try simp at hexz); (try (have hy0 : w.heap.size < ex.to.heap.size := by omega)); (try (have hy1 : w.heap.size + 1 < ex.to.heap.size := by omega)); (try (have hy2 : w.heap.size + 2 < ex.to.heap.size := by omega)))
        go_wp2
        go_ret
        rw [He2.out]
        exact ⟨rfl, by have := ex.below; exact ((Below.refl _ _).alloc (Nat.le_refl _) _).trans (this.mono (by simp))⟩
    · have He2 : Hid (explOk j ⟨(m : Int), e1, e2⟩ = false) := Lib.hid (by rw [He.out]; simp [c1])
      have t1 : (x1 == e1) = false := by simpa using c1
      subst c0
      clear He
      go_enter Try.func88, Try.ntmps88
      go_wp2
      (refine wp_region_ext 8 (by kernel_rfl) (by kernel_rfl) ?_; simp only [List.take_succ_cons, List.take_zero, List.drop_succ_cons, List.drop_zero]; (repeat (go_big_quiet_step ((fail)))); refine wpQuiet_nil ?_; rintro _ ⟨ex, rfl⟩; have hex := ex.below; have hexz := ex.size; (try simp at hexz); (try (have hy0 : w.heap.size < ex.to.heap.size := by omega)); (try (have hy1 : w.heap.size + 1 < ex.to.heap.size := by omega)); (try (have hy2 : w.heap.size + 2 < ex.to.heap.size := by omega)))
      go_wp2
      go_ret
      rw [He2.out]
      exact ⟨rfl, by have := ex.below; exact ((Below.refl _ _).alloc (Nat.le_refl _) _).trans (this.mono (by simp))⟩
  · have He2 : Hid (explOk j ⟨(m : Int), e1, e2⟩ = false) := Lib.hid (by rw [He.out]; simp [c0])
    have t0 : (x0 == (m : Int)) = false := by simpa using c0
    clear He
    go_enter Try.func88, Try.ntmps88
    go_wp2
    (refine wp_region_ext 8 (by kernel_rfl) (by kernel_rfl) ?_; simp only [List.take_succ_cons, List.take_zero, List.drop_succ_cons, List.drop_zero]; (repeat (go_big_quiet_step ((fail)))); refine wpQuiet_nil ?_; rintro _ ⟨ex, rfl⟩; have hex := ex.below; have hexz := ex.size; (try simp at hexz); (try (have hy0 : w.heap.size < ex.to.heap.size := by omega)); (try (have hy1 : w.heap.size + 1 < ex.to.heap.size := by omega)); (try (have hy2 : w.heap.size + 2 < ex.to.heap.size := by omega)))
    go_wp2
    go_ret
    rw [He2.out]
    exact ⟨rfl, by have := ex.below; exact ((Below.refl _ _).alloc (Nat.le_refl _) _).trans (this.mono (by simp))⟩

set_option maxRecDepth 100000 in
set_option maxHeartbeats 4000000 in
theorem prove_a1 (a : Option Addr) (c : Nat) (ar : Option Addr) (cr : Nat) (p : Post) (at_ : Option Addr) (t : List (List (List Int))) (ct : Nat) (al : Option Addr) (l : List Ent) (cl : Nat) (w : World) (hs : IntsAt w a p.sends) (hr : RoutesAt w ar p.routes) (sm : PostSmall p) (ht : TruthAt w at_ t) (st : TruthSmall t) (he : EntsAt w al l) (hl : l.length ≤ 1000) (E : Int) (hE : bookErr p l = E) (hne : E ≠ 0) :
    Calls Try.prog 52 #[.agg #[.slice a p.sends.length c, .slice ar p.routes.length cr, .int .i64 p.pat], .slice at_ t.length ct, .slice al l.length cl] w fun e w' => e = .returned (.bool false) ∧ Below w.heap.size w w' := by
  have bk := fun W (b : Below w.heap.size w W) => booked_any a c ar cr p al l cl W (hs.below b) (hr.below b) sm (he.below b) (by omega)
  have shp := fun W (b : Below w.heap.size w W) => shaped_any a c ar cr p at_ ct t W (hr.below b) (ht.below b) sm.s sm.r sm.l st.n st.l st.r
  obtain ⟨W0, hW0⟩ : ∃ z : World, z = w.alloc (.cells #[.slice a p.sends.length c, .slice ar p.routes.length cr, .int .i64 p.pat] 34) := ⟨_, rfl⟩
  have t0 : Below w.heap.size w W0 := by rw [hW0]; exact (Below.refl _ _).alloc (Nat.le_refl _) _
  have C0 : Cells W0 w.heap.size #[.slice a p.sends.length c, .slice ar p.routes.length cr, .int .i64 p.pat] 34 := by rw [hW0]; exact Cells.new _ _ _
  rw [hE] at bk
  have hne1 : (E != 0) = true := by simpa using hne
  clear hE
  go_enter Try.func52, Try.ntmps52
  go_wp2_with fail
  rw [← hW0]
  clear hW0
  go_at_call 78
  with_reducible refine (bk _ t0).mono ?_
  rintro e w1 ⟨rfl, hb1⟩
  have t1 : Below w.heap.size w w1 := t0.trans (hb1.mono t0.size)
  have C1 := C0.below hb1
  have k0 := C1.cell 0
  have k1 := C1.cell 1
  have k2 := C1.cell 2
  have lC := C1.lt
  simp at k0 k1 k2
  clear bk C0
  go_wp2_with fail
  go_ret
  exact ⟨rfl, t1⟩

set_option maxRecDepth 100000 in
set_option maxHeartbeats 4000000 in
theorem prove_a2 (a : Option Addr) (c : Nat) (ar : Option Addr) (cr : Nat) (p : Post) (at_ : Option Addr) (t : List (List (List Int))) (ct : Nat) (al : Option Addr) (l : List Ent) (cl : Nat) (w : World) (hs : IntsAt w a p.sends) (hr : RoutesAt w ar p.routes) (sm : PostSmall p) (ht : TruthAt w at_ t) (st : TruthSmall t) (he : EntsAt w al l) (hl : l.length ≤ 1000) (hE : bookErr p l = 0) (E : Int) (hS : shapeErr p t = E) (hne : E ≠ 0) :
    Calls Try.prog 52 #[.agg #[.slice a p.sends.length c, .slice ar p.routes.length cr, .int .i64 p.pat], .slice at_ t.length ct, .slice al l.length cl] w fun e w' => e = .returned (.bool false) ∧ Below w.heap.size w w' := by
  have bk := fun W (b : Below w.heap.size w W) => booked_any a c ar cr p al l cl W (hs.below b) (hr.below b) sm (he.below b) (by omega)
  have shp := fun W (b : Below w.heap.size w W) => shaped_any a c ar cr p at_ ct t W (hr.below b) (ht.below b) sm.s sm.r sm.l st.n st.l st.r
  obtain ⟨W0, hW0⟩ : ∃ z : World, z = w.alloc (.cells #[.slice a p.sends.length c, .slice ar p.routes.length cr, .int .i64 p.pat] 34) := ⟨_, rfl⟩
  have t0 : Below w.heap.size w W0 := by rw [hW0]; exact (Below.refl _ _).alloc (Nat.le_refl _) _
  have C0 : Cells W0 w.heap.size #[.slice a p.sends.length c, .slice ar p.routes.length cr, .int .i64 p.pat] 34 := by rw [hW0]; exact Cells.new _ _ _
  rw [hE] at bk
  rw [hS] at shp
  have hne1 : (E != 0) = true := by simpa using hne
  clear hE hS
  go_enter Try.func52, Try.ntmps52
  go_wp2_with fail
  rw [← hW0]
  clear hW0
  go_at_call 78
  with_reducible refine (bk _ t0).mono ?_
  rintro e w1 ⟨rfl, hb1⟩
  have t1 : Below w.heap.size w w1 := t0.trans (hb1.mono t0.size)
  have C1 := C0.below hb1
  have k0 := C1.cell 0
  have k1 := C1.cell 1
  have k2 := C1.cell 2
  have lC := C1.lt
  simp at k0 k1 k2
  clear bk C0
  go_wp2_with fail
  go_at_call 64
  with_reducible refine (shp _ t1).mono ?_
  rintro e w2 ⟨rfl, hb2⟩
  have t2 : Below w.heap.size w w2 := t1.trans (hb2.mono t1.size)
  have C2 := C1.below hb2
  have m0 := C2.cell 0
  have m1 := C2.cell 1
  have m2 := C2.cell 2
  have lD := C2.lt
  simp at m0 m1 m2
  clear shp C1 k0 k1 k2 lC
  go_wp2_with fail
  go_ret
  exact ⟨rfl, t2⟩

set_option maxRecDepth 100000 in
set_option maxHeartbeats 4000000 in
theorem prove_a3 (a : Option Addr) (c : Nat) (ar : Option Addr) (cr : Nat) (p : Post) (at_ : Option Addr) (t : List (List (List Int))) (ct : Nat) (al : Option Addr) (l : List Ent) (cl : Nat) (w : World) (hs : IntsAt w a p.sends) (hr : RoutesAt w ar p.routes) (sm : PostSmall p) (ht : TruthAt w at_ t) (st : TruthSmall t) (he : EntsAt w al l) (hl : l.length ≤ 1000) (hE : bookErr p l = 0) (hS : shapeErr p t = 0) :
    Calls Try.prog 52 #[.agg #[.slice a p.sends.length c, .slice ar p.routes.length cr, .int .i64 p.pat], .slice at_ t.length ct, .slice al l.length cl] w fun e w' => e = .returned (.bool (explsB p t l)) ∧ Below w.heap.size w w' := by
  have bk := fun W (b : Below w.heap.size w W) => booked_any a c ar cr p al l cl W (hs.below b) (hr.below b) sm (he.below b) (by omega)
  have shp := fun W (b : Below w.heap.size w W) => shaped_any a c ar cr p at_ ct t W (hr.below b) (ht.below b) sm.s sm.r sm.l st.n st.l st.r
  obtain ⟨W0, hW0⟩ : ∃ z : World, z = w.alloc (.cells #[.slice a p.sends.length c, .slice ar p.routes.length cr, .int .i64 p.pat] 34) := ⟨_, rfl⟩
  have t0 : Below w.heap.size w W0 := by rw [hW0]; exact (Below.refl _ _).alloc (Nat.le_refl _) _
  have C0 : Cells W0 w.heap.size #[.slice a p.sends.length c, .slice ar p.routes.length cr, .int .i64 p.pat] 34 := by rw [hW0]; exact Cells.new _ _ _
  rw [hE] at bk
  rw [hS] at shp
  obtain ⟨hp0, l8, hall⟩ := bookErr_ok' hE
  have plk := fun W (b : Below w.heap.size w W) => play_any a c ar cr p at_ ct t W (hs.below b) (hr.below b) (ht.below b) (playOk_of hp0 hS)
  have hlen : (playF p t).length = t.length := playGo_len p t 0 0
  have hts : t.length = p.sends.length := (playOk_of hp0 hS).n
  have hn4 := (postErr_ok hp0).1
  have Hexp : Hid (explsB p t l = l.all (explOk (playF p t))) := Lib.hid rfl
  have Hent : Hid (∀ e ∈ l, 0 ≤ e.num ∧ e.num < (t.length : Int)) := Lib.hid (fun e he => by
    have := List.all_eq_true.1 hall e he
    simp only [entOk, Bool.and_eq_true] at this
    have := inR_iff.1 this.1
    omega)
  obtain ⟨J, hJ⟩ : ∃ J, playF p t = J := ⟨_, rfl⟩
  rw [hJ] at plk hlen Hexp
  have Hlen := Lib.hid hlen
  have lt4 : t.length ≤ 4 := by omega
  clear hE hS hJ hlen hts hall
  go_enter Try.func52, Try.ntmps52
  go_wp2_with fail
  rw [← hW0]
  clear hW0
  go_at_call 78
  with_reducible refine (bk _ t0).mono ?_
  rintro e w1 ⟨rfl, hb1⟩
  have t1 : Below w.heap.size w w1 := t0.trans (hb1.mono t0.size)
  have C1 := C0.below hb1
  have k0 := C1.cell 0
  have k1 := C1.cell 1
  have k2 := C1.cell 2
  have lC := C1.lt
  simp at k0 k1 k2
  clear bk C0
  go_wp2_with fail
  go_at_call 64
  with_reducible refine (shp _ t1).mono ?_
  rintro e w2 ⟨rfl, hb2⟩
  have t2 : Below w.heap.size w w2 := t1.trans (hb2.mono t1.size)
  have C2 := C1.below hb2
  have m0 := C2.cell 0
  have m1 := C2.cell 1
  have m2 := C2.cell 2
  have lD := C2.lt
  simp at m0 m1 m2
  clear shp C1 k0 k1 k2 lC
  go_wp2_with fail
  go_at_call 65
  refine (plk _ t2).mono ?_
  rintro e w3 ⟨⟨aj, cj, rfl, oj⟩, hb3⟩
  have t3 : Below w.heap.size w w3 := t2.trans (hb3.mono t2.size)
  have iJ := OwnL.ents oj
  clear plk C2 m0 m1 m2 lD
  obtain ⟨W4, hW4⟩ : ∃ z : World, z = w3.alloc (.cells #[.slice aj t.length cj] 36) := ⟨_, rfl⟩
  have b4 : Below w3.heap.size w3 W4 := by rw [hW4]; exact (Below.refl _ _).alloc (Nat.le_refl _) _
  have C4 : Cells W4 w3.heap.size #[.slice aj t.length cj] 36 := by rw [hW4]; exact Cells.new _ _ _
  have t4 := t3.trans (b4.mono t3.size)
  have c4 := C4.cell 0
  simp at c4
  have hal := all_entry al l cl 88 #[] #[.pointer (some ⟨w3.heap.size, 0, none⟩)] (explOk J) W4 (by omega) (he.below t4) (enters Try.func88 (by kernel_rfl) rfl) (fun x hx => explOk_meets aj J t.length cj w3.heap.size W4 c4 (iJ.below b4) Hlen (by omega) x (Hent.out x hx).1 (Hent.out x hx).2)
  rw [← Hexp.out] at hal
  go_wp2_with fail
  rw [← hW4]
  go_at_call 87
  refine hal.mono ?_
  rintro e w5 ⟨rfl, hb5⟩
  go_wp2_with fail
  go_ret
  exact ⟨rfl, t4.trans (hb5.mono t4.size)⟩
theorem prove_eq (a : Option Addr) (c : Nat) (ar : Option Addr) (cr : Nat) (p : Post) (at_ : Option Addr) (t : List (List (List Int))) (N ct : Nat) (al : Option Addr) (l : List Ent) (cl : Nat) (w : World) (B : Bool) (hB : Hid (proveB p t l = B)) (hN : Hid (t.length = N)) (hs : IntsAt w a p.sends) (hr : RoutesAt w ar p.routes) (sm : Hid (PostSmall p)) (ht : TruthAt w at_ t) (st : Hid (TruthSmall t)) (he : EntsAt w al l) (hl : l.length ≤ 1000) :
    Calls Try.prog 52 #[.agg #[.slice a p.sends.length c, .slice ar p.routes.length cr, .int .i64 p.pat], .slice at_ N ct, .slice al l.length cl] w fun e w' => e = .returned (.bool B) ∧ Below w.heap.size w w' := by
  rw [← hB.out, ← hN.out]
  by_cases h0 : bookErr p l = 0
  · by_cases h1 : shapeErr p t = 0
    · rw [show proveB p t l = explsB p t l by unfold proveB; simp [h0, h1]]
      exact prove_a3 a c ar cr p at_ t ct al l cl w hs hr sm.out ht st.out he hl h0 h1
    · rw [show proveB p t l = false by unfold proveB; simp [h1]]
      exact prove_a2 a c ar cr p at_ t ct al l cl w hs hr sm.out ht st.out he hl h0 _ rfl h1
  · rw [show proveB p t l = false by unfold proveB; simp [h0]]
    exact prove_a1 a c ar cr p at_ t ct al l cl w hs hr sm.out ht st.out he hl _ rfl h0

set_option maxRecDepth 100000 in
set_option maxHeartbeats 4000000 in
theorem explains_eq (a : Option Addr) (c : Nat) (ar : Option Addr) (cr : Nat) (p : Post) (at_ : Option Addr) (t : List (List (List Int))) (N ct : Nat) (al : Option Addr) (l : List Ent) (cl : Nat) (w : World) (B : Bool) (hB : Hid (explsB p t l = B)) (hN : Hid (t.length = N)) (hs : IntsAt w a p.sends) (hr : RoutesAt w ar p.routes) (ht : TruthAt w at_ t) (H0 : Hid (bookErr p l = 0)) (HS : Hid (shapeErr p t = 0)) (he : EntsAt w al l) :
    Calls Try.prog 53 #[.agg #[.slice a p.sends.length c, .slice ar p.routes.length cr, .int .i64 p.pat], .slice at_ N ct, .slice al l.length cl] w fun e w' => e = .returned (.bool B) ∧ Below w.heap.size w w' := by
  obtain ⟨rfl⟩ := hN
  obtain ⟨hp0, l8, hall⟩ := bookErr_ok' H0.out
  have ok := playOk_of hp0 HS.out
  have plk := fun W (b : Below w.heap.size w W) => refPlay_any a c ar cr p at_ ct t W (hs.below b) (hr.below b) (ht.below b) ok
  have hlen : (playF p t).length = t.length := playGo_len p t 0 0
  have hts : t.length = p.sends.length := ok.n
  have hn4 := (postErr_ok hp0).1
  have lt4 : t.length ≤ 4 := by omega
  have Hexp : Hid (l.all (explOk (playF p t)) = B) := Lib.hid hB.out
  have Hent : Hid (∀ e ∈ l, 0 ≤ e.num ∧ e.num < (t.length : Int)) := Lib.hid (fun e he => by
    have := List.all_eq_true.1 hall e he
    simp only [entOk, Bool.and_eq_true] at this
    have := inR_iff.1 this.1
    omega)
  obtain ⟨J, hJ⟩ : ∃ J, playF p t = J := ⟨_, rfl⟩
  rw [hJ] at plk hlen Hexp
  have Hlen := Lib.hid hlen
  clear hJ hlen hts hall ok hB
  go_enter Try.func53, Try.ntmps53
  go_wp2_with fail
  go_at_call 27
  refine (plk _ (by (repeat (first | exact Below.refl _ _ | refine Below.alloc ?_ (by first | omega | (simp; done) | (simp; omega)) _ | refine Below.drew ?_ | refine Below.setCell ?_ (by first | omega | (simp; done) | (simp; omega)) _ | refine Below.trans ?_ (Below.mono (by assumption) (by first | omega | (simp; done) | (simp; omega))))))).mono ?_
  rintro e w1 ⟨⟨aj, cj, rfl, iJ⟩, hb1⟩
  have t1 : Below w.heap.size w w1 := by (repeat (first | exact Below.refl _ _ | refine Below.alloc ?_ (by first | omega | (simp; done) | (simp; omega)) _ | refine Below.drew ?_ | refine Below.setCell ?_ (by first | omega | (simp; done) | (simp; omega)) _ | refine Below.trans ?_ (Below.mono (by assumption) (by first | omega | (simp; done) | (simp; omega)))))
  clear plk
  go_wp2_with fail
  go_loopw [8] (fun u wr => ∃ k : Nat, k ≤ l.length ∧ u = .int .i64 k ∧ (l.take k).all (explOk J) = true ∧ Below w1.heap.size w1 wr) (fun u _ => l.length - (intOf u).toNat)
  case atStart => exact ⟨0, Nat.zero_le _, rfl, rfl, Below.refl _ _⟩
  case round =>
    obtain ⟨k, hk, rfl, hpre, hb⟩ := hrel
    have Hp := Lib.hid hpre
    clear hpre
    have zb := hb.size
    have tb := t1.trans (hb.mono t1.size)
    by_cases hkl : k < l.length
    · have hkI : (k : Int) < (l.length : Int) := by omega
      have hen := Hent.out _ (List.getElem_mem hkl)
      have Ht := Lib.hid (fun h => all_take_succ (p := explOk J) hkl Hp.out h)
      have Hf := Lib.hid (fun h => all_false_at (p := explOk J) hkl h)
      obtain ⟨b2, off2, rfl, hb2, y0, y1, y2⟩ := (he.below tb) k hkl
      obtain ⟨⟨e0, e1, e2⟩, hee⟩ : ∃ x, l[k] = x := ⟨_, rfl⟩
      rw [hee] at y0 y1 y2 hen Ht Hf
      simp only at y0 y1 y2 hen
      obtain ⟨m, rfl⟩ : ∃ m : Nat, e0 = (m : Int) := ⟨e0.toNat, by omega⟩
      have hm : m < J.length := by rw [Hlen.out]; omega
      have hmI : (m : Int) < (t.length : Int) := hen.2
      obtain ⟨b1, off1, rfl, hb1', z0, z1, z2⟩ := (iJ.below hb) m hm
      have He : Hid (explOk J ⟨(m : Int), e1, e2⟩ = decide (J[m] = ⟨(m : Int), e1, e2⟩)) := Lib.hid (by unfold explOk; simp [hm])
      obtain ⟨⟨x0, x1, x2⟩, hx⟩ : ∃ x, J[m] = x := ⟨_, rfl⟩
      rw [hx] at z0 z1 z2 He
      simp only at z0 z1 z2
      clear hx hee hen
      by_cases hq : (⟨x0, x1, x2⟩ : Ent) = ⟨(m : Int), e1, e2⟩
      · have Hn := Lib.hid (Ht.out (by rw [He.out]; exact decide_eq_true hq))
        simp only [Ent.mk.injEq] at hq
        obtain ⟨rfl, rfl, rfl⟩ := hq
        go_wp2
        (refine wp_region_ext 13 (by kernel_rfl) (by kernel_rfl) ?_; simp only [List.take_succ_cons, List.take_zero, List.drop_succ_cons, List.drop_zero]; (repeat (go_big_quiet_step ((fail)))); refine wpQuiet_nil ?_; rintro _ ⟨ex, rfl⟩; have hex := ex.below; have hexz := ex.size; (try simp at hexz); (try (have hy0 : w.heap.size < ex.to.heap.size := by omega)); (try (have hy1 : w.heap.size + 1 < ex.to.heap.size := by omega)); (try (have hy2 : w.heap.size + 2 < ex.to.heap.size := by omega)))
        go_wp2
        go_roundw
        case rel => exact ⟨k + 1, by omega, by go_num, Hn.out, hb.trans (ex.below.mono zb)⟩
        case measure => simp [intOf]; omega
      · have Hn : Hid (B = false) := Lib.hid (by rw [← Hexp.out]; exact Hf.out (by rw [He.out]; exact decide_eq_false hq))
        have hne : ¬ (x0 = (m : Int) ∧ x1 = e1 ∧ x2 = e2) := fun ⟨h1, h2, h3⟩ => hq (by rw [h1, h2, h3])
        clear hq
        by_cases c0 : x0 = (m : Int)
        · by_cases c1 : x1 = e1
          · have c2 : ¬ x2 = e2 := fun h => hne ⟨c0, c1, h⟩
            have q2 : (x2 == e2) = false := by simpa using c2
            subst c0 c1
            clear hne
            go_wp2
            (refine wp_region_ext 13 (by kernel_rfl) (by kernel_rfl) ?_; simp only [List.take_succ_cons, List.take_zero, List.drop_succ_cons, List.drop_zero]; (repeat (go_big_quiet_step ((fail)))); refine wpQuiet_nil ?_; rintro _ ⟨ex, rfl⟩; have hex := ex.below; have hexz := ex.size; (try simp at hexz); (try (have hy0 : w.heap.size < ex.to.heap.size := by omega)); (try (have hy1 : w.heap.size + 1 < ex.to.heap.size := by omega)); (try (have hy2 : w.heap.size + 2 < ex.to.heap.size := by omega)))
            go_wp2
            go_ret
            rw [Hn.out]
            exact ⟨rfl, tb.trans (ex.below.mono tb.size)⟩
          · have q1 : (x1 == e1) = false := by simpa using c1
            subst c0
            clear hne
            go_wp2
            (refine wp_region_ext 13 (by kernel_rfl) (by kernel_rfl) ?_; simp only [List.take_succ_cons, List.take_zero, List.drop_succ_cons, List.drop_zero]; (repeat (go_big_quiet_step ((fail)))); refine wpQuiet_nil ?_; rintro _ ⟨ex, rfl⟩; have hex := ex.below; have hexz := ex.size; (try simp at hexz); (try (have hy0 : w.heap.size < ex.to.heap.size := by omega)); (try (have hy1 : w.heap.size + 1 < ex.to.heap.size := by omega)); (try (have hy2 : w.heap.size + 2 < ex.to.heap.size := by omega)))
            go_wp2
            go_ret
            rw [Hn.out]
            exact ⟨rfl, tb.trans (ex.below.mono tb.size)⟩
        · have q0 : (x0 == (m : Int)) = false := by simpa using c0
          clear hne
          go_wp2
          (refine wp_region_ext 13 (by kernel_rfl) (by kernel_rfl) ?_; simp only [List.take_succ_cons, List.take_zero, List.drop_succ_cons, List.drop_zero]; (repeat (go_big_quiet_step ((fail)))); refine wpQuiet_nil ?_; rintro _ ⟨ex, rfl⟩; have hex := ex.below; have hexz := ex.size; (try simp at hexz); (try (have hy0 : w.heap.size < ex.to.heap.size := by omega)); (try (have hy1 : w.heap.size + 1 < ex.to.heap.size := by omega)); (try (have hy2 : w.heap.size + 2 < ex.to.heap.size := by omega)))
          go_wp2
          go_ret
          rw [Hn.out]
          exact ⟨rfl, tb.trans (ex.below.mono tb.size)⟩
    · obtain rfl : k = l.length := by omega
      have hBt : Hid (B = true) := Lib.hid (by rw [← Hexp.out]; exact all_of_take (Nat.le_refl _) Hp.out)
      go_wp2
      go_ret
      rw [hBt.out]
      exact ⟨rfl, tb⟩
end Go.Proofs.Ytfclemnkcpadpaa

namespace Go.Proofs.Ytfclemnkcpadpaa
set_option linter.unusedVariables false
set_option linter.unusedSimpArgs false
set_option linter.unnecessarySimpa false
open Go.RowKit Go.Flow

theorem legHr_it {l : Leg} {S : Hrs} {m : Nat} : legHr l S m = true ↔ ∃ h j : Nat, h < 101 ∧ S h = true ∧ j < (l.hi - l.lo + 1).toNat ∧ awk l (h + l.lo + j) = m := by
  simp only [legHr, List.any_eq_true, Bool.and_eq_true, decide_eq_true_eq, List.mem_range]
  constructor
  · rintro ⟨h, h1, h2, j, h3, h4⟩; exact ⟨h, j, h1, h2, h3, h4⟩
  · rintro ⟨h, j, h1, h2, h3, h4⟩; exact ⟨h, h1, h2, j, h3, h4⟩
theorem takesF_sound : ∀ (ls : List Leg) (s h : Int) (ts : List Int), takesF ls s h = some ts → inB ts ls = true ∧ comesF ls ts s = h
  | [], s, h, ts, e => by
    rw [takesF] at e
    split at e
    · rename_i hs; cases e; exact ⟨rfl, hs⟩
    · cases e
  | l :: ls, s, h, ts, e => by
    rw [takesF] at e
    obtain ⟨j, hj, hm⟩ := List.exists_of_findSome?_eq_some e
    rw [Option.map_eq_some_iff] at hm
    obtain ⟨y, hy, rfl⟩ := hm
    obtain ⟨h1, h2⟩ := takesF_sound ls _ h y hy
    have hjb := List.mem_range.1 hj
    refine ⟨?_, h2⟩
    rw [inB, h1, Bool.and_true]
    exact inR_iff.2 ⟨by show l.lo ≤ l.lo + j; omega, by show l.lo + (j : Int) ≤ l.hi; omega⟩
theorem takesF_full : ∀ (ls : List Leg) (S : Hrs) (h : Nat), ls.foldl (fun S l => legHr l S) S h = true → ∃ s : Nat, S s = true ∧ takesF ls s h ≠ none
  | [], S, h, hS => ⟨h, hS, by rw [takesF, if_pos rfl]; simp⟩
  | l :: ls, S, h, hf => by
    obtain ⟨s', h1, h2⟩ := takesF_full ls (legHr l S) h hf
    obtain ⟨s, j, _, g2, g3, g4⟩ := legHr_it.1 h1
    refine ⟨s, g2, ?_⟩
    rw [takesF]
    intro hn
    have := List.findSome?_eq_none_iff.1 hn j (List.mem_range.2 g3)
    rw [Option.map_eq_none_iff, show (s : Int) + (l.lo + j) = (s : Int) + l.lo + j by omega, g4] at this
    exact h2 this
theorem hourGo_min (s h : Int) : ∀ (l : List (List Int)) (rs : List Route) (H : Int), l.length = rs.length → h ≤ H → (∀ (j : Nat) (h1 : j < l.length) (h2 : j < rs.length), h ≤ comeR rs[j] s l[j]) → (H = h ∨ ∃ (j : Nat) (h1 : j < l.length) (h2 : j < rs.length), comeR rs[j] s l[j] = h) → hourGo s H l rs = h
  | [], [], H, _, _, _, hx => by
    rcases hx with e | ⟨j, h1, _⟩
    · simp [hourGo, e]
    · simp at h1
  | [], _ :: _, _, e, _, _, _ => by simp at e
  | _ :: _, [], _, e, _, _, _ => by simp at e
  | ts :: l, r :: rs, H, e, hH, hall, hx => by
    rw [hourGo]
    have h0 := hall 0 (by simp) (by simp)
    simp only [List.getElem_cons_zero] at h0
    refine hourGo_min s h l rs _ (by simpa using e) (by omega) (fun j h1 h2 => hall (j + 1) (by simpa using h1) (by simpa using h2)) ?_
    rcases hx with e | ⟨j, h1, h2, e⟩
    · left; omega
    · cases j with
      | zero => simp only [List.getElem_cons_zero] at e; left; omega
      | succ j => exact Or.inr ⟨j, by simpa using h1, by simpa using h2, by simpa using e⟩
section
variable {p : Post} (h0 : postErr p = 0) {i : Nat} (hi : i < p.sends.length)
include h0
theorem legs_pos {k : Nat} (hk : k < p.routes.length) : 0 < p.routes[k].legs.length := by
  have := List.all_eq_true.1 (postErr_ok h0).2.2.2.2.2.2.2.2 _ (List.getElem_mem hk)
  simp only [routeOk, Bool.and_eq_true, decide_eq_true_eq] at this
  exact this.1
include hi
omit h0 hi in
theorem takes_hr {k : Nat} (hk : k < p.routes.length) {h : Nat} (hh : hrF p i k h = true) : takesF p.routes[k].legs (p.sends.getD i 0) h ≠ none := by
  have e : hrF p i k = p.routes[k].legs.foldl (fun S l => legHr l S) (oneHr (p.sends.getD i 0)) := by
    unfold hrF routeHr
    rw [List.getElem?_eq_getElem hk]; rfl
  rw [e] at hh
  obtain ⟨s, h1, h2⟩ := takesF_full _ _ _ hh
  have : (s : Int) = p.sends.getD i 0 := of_decide_eq_true h1
  rw [← this]; exact h2
theorem takes_last {k : Nat} (hk : k < p.routes.length) : ∃ ts, takesF p.routes[k].legs (p.sends.getD i 0) (lastH (hrF p i k)) = some ts := by
  obtain ⟨m, _, h2, h3, _⟩ := lastH_spec (post_ne h0 hi k hk)
  rw [h3]
  exact Option.ne_none_iff_exists'.1 (takes_hr hk h2)
theorem truth1_fit {k : Nat} (hk : k < p.routes.length) (h : Int) : rowBad p.routes[k] (truth1 p i h k) = false ∧ inB (truth1 p i h k) p.routes[k].legs = true := by
  unfold truth1
  rw [show p.routes.getD k ⟨[], false⟩ = p.routes[k] by simp [hk]]
  cases ht : takesF p.routes[k].legs (p.sends.getD i 0) h with
  | some z =>
    have hl := takesF_len _ _ _ z ht
    exact ⟨by simp [rowBad, hl], (takesF_sound _ _ _ z ht).1⟩
  | none =>
    cases hy : p.routes[k].lossy
    · obtain ⟨ts, hts⟩ := takes_last h0 hi hk
      have hl := takesF_len _ _ _ ts hts
      simp only [hts, Option.getD_some]
      exact ⟨by simp [rowBad, hl], by simpa using (takesF_sound _ _ _ ts hts).1⟩
    · exact ⟨by simp [rowBad, hy], by simp [inB]⟩
omit hi in
theorem come_of {k : Nat} (hk : k < p.routes.length) {h : Int} {ts : List Int} (ht : takesF p.routes[k].legs (p.sends.getD i 0) h = some ts) : comeR p.routes[k] (p.sends.getD i 0) ts = h := by
  have hl := takesF_len _ _ _ ts ht
  have hp := legs_pos h0 hk
  unfold comeR
  rw [if_neg (fun e => by rw [e] at hl; simp at hl; omega)]
  exact (takesF_sound _ _ _ ts ht).2
theorem truth1_come {h : Nat} (hh : h ≤ 101) (hc : canB p i h = true) {k : Nat} (hk : k < p.routes.length) : (h : Int) ≤ comeR p.routes[k] (p.sends.getD i 0) (truth1 p i h k) ∧ (hrF p i k h = true → comeR p.routes[k] (p.sends.getD i 0) (truth1 p i h k) = h) := by
  have hb := (can_iff.1 hc).1 k hk
  unfold truth1
  rw [show p.routes.getD k ⟨[], false⟩ = p.routes[k] by simp [hk]]
  cases ht : takesF p.routes[k].legs (p.sends.getD i 0) (h : Int) with
  | some z =>
    have := come_of h0 hk ht
    simp only
    exact ⟨by omega, fun _ => this⟩
  | none =>
    refine ⟨?_, fun hq => absurd ht (takes_hr hk hq)⟩
    unfold badK lossyK at hb
    rw [List.getElem?_eq_getElem hk] at hb
    simp only [Option.map_some, Option.getD_some] at hb
    cases hy : p.routes[k].lossy
    · obtain ⟨ts, hts⟩ := takes_last h0 hi hk
      have := come_of h0 hk hts
      rw [hy] at hb
      simp at hb
      simp only [hts, Option.getD_some, Bool.false_eq_true, if_false]
      omega
    · simp only [if_true]
      unfold comeR
      rw [if_pos rfl]; omega
theorem truthRow_hour {h : Nat} (hh : h ≤ 101) (hc : canB p i h = true) : hourGo (p.sends.getD i 0) 101 (truthRow p i h) p.routes = h := by
  have hlen : (truthRow p i h).length = p.routes.length := by simp [truthRow]
  have hat : ∀ (j : Nat) (h1 : j < (truthRow p i (h : Int)).length), (truthRow p i h)[j] = truth1 p i h j := fun j h1 => by simp [truthRow]
  refine hourGo_min _ _ _ _ _ hlen (by omega) (fun j h1 h2 => ?_) ?_
  · rw [hat]; exact (truth1_come h0 hi hh hc h2).1
  · rcases (can_iff.1 hc).2 with e | ⟨j, hj, _, hr⟩
    · left; omega
    · right
      refine ⟨j, by rw [hlen]; exact hj, hj, ?_⟩
      rw [hat]; exact (truth1_come h0 hi hh hc hj).2 hr
end
def rowsFrom (p : Post) : Nat → List Int → List (List (List Int))
  | _, [] => []
  | i, h :: z => truthRow p i h :: rowsFrom p (i + 1) z
theorem rowsFrom_at (p : Post) : ∀ (z : List Int) (i q : Nat), (rowsFrom p i z)[q]? = (z[q]?).map (truthRow p (i + q))
  | [], i, q => by simp [rowsFrom]
  | h :: z, i, 0 => by simp [rowsFrom]
  | h :: z, i, q + 1 => by
    simp only [rowsFrom, List.getElem?_cons_succ, rowsFrom_at p z (i + 1) q]
    rw [show i + 1 + q = i + (q + 1) by omega]
theorem truthF_rows (p : Post) (z : List Int) : truthF p z = rowsFrom p 0 z := by
  apply List.ext_getElem?
  intro q
  rw [rowsFrom_at, Nat.zero_add]
  unfold truthF
  rw [List.getElem?_map]
  by_cases hq : q < z.length
  · rw [List.getElem?_range hq, List.getElem?_eq_getElem hq]
    simp [hq]
  · rw [List.getElem?_eq_none (by simpa using hq), List.getElem?_eq_none (by simpa using hq)]; rfl
theorem play_path {p : Post} (h0 : postErr p = 0) {l : List Ent} : ∀ (r i : Nat) (f : Int) (z : List Int), i + r = p.sends.length → nextR p l r i f = some z → ∀ (q : Nat), q < r → ∀ e ∈ l, e.num = ((i + q : Nat) : Int) → (playGo p i f (rowsFrom p i z))[q]? = some e
  | 0, i, f, z, _, _, q, hq, _, _, _ => by omega
  | r + 1, i, f, z, hi, hz, q, hq, e, he, hen => by
    rw [nextR] at hz
    obtain ⟨h, hh, hj⟩ := List.exists_of_findSome?_eq_some hz
    have hh' := List.mem_range.1 hh
    split at hj
    · rename_i hc
      rw [Bool.and_eq_true] at hc
      rw [Option.map_eq_some_iff] at hj
      obtain ⟨y, hy, rfl⟩ := hj
      rw [rowsFrom, playGo, truthRow_hour h0 (by omega) (by omega) hc.1]
      cases q with
      | zero =>
        have hf := hc.2
        unfold fitsB at hf
        simp only [Bool.not_eq_true', List.any_eq_false] at hf
        have h3 := hf e he
        rw [List.getElem?_cons_zero]
        simp only [Nat.add_zero] at hen
        have hn : (recvF p i f h).num = (i : Int) := rfl
        congr 1
        generalize recvF p i f h = R at h3 hn
        obtain ⟨r0, r1, r2⟩ := R
        obtain ⟨e0, e1, e2⟩ := e
        simp only at hen hn
        subst hen hn
        by_cases c1 : e1 = r1
        · by_cases c2 : e2 = r2
          · rw [c1, c2]
          · exact absurd (by simp [wrongB, entNe, c2]) h3
        · exact absurd (by simp [wrongB, entNe, c1]) h3
      | succ q =>
        rw [List.getElem?_cons_succ]
        exact play_path h0 r (i + 1) _ y (by omega) hy q (by omega) e he (by rw [hen]; congr 1; omega)
    · cases hj
theorem midE_it (f : Bool → Int) : ∀ (l : List (List Int)) (rs : List Route), l.length = rs.length → (∀ (j : Nat) (h1 : j < l.length) (h2 : j < rs.length), rowBad rs[j] l[j] = false ∧ inB l[j] rs[j].legs = true) → midE true l rs f = f true
  | [], [], _, _ => by simp [midE]
  | [], _ :: _, h, _ => by simp at h
  | _ :: _, [], h, _ => by simp at h
  | ts :: l, r :: rs, h, hf => by
    obtain ⟨h1, h2⟩ := hf 0 (by simp) (by simp)
    simp only [List.getElem_cons_zero] at h1 h2
    rw [midE, h1, h2]
    simp only [Bool.and_true]
    exact midE_it f l rs (by simpa using h) (fun j h1 h2 => hf (j + 1) (by simpa using h1) (by simpa using h2))
theorem outE_it (rs : List Route) : ∀ (t : List (List (List Int))), (∀ l ∈ t, l.length = rs.length ∧ ∀ (j : Nat) (h1 : j < l.length) (h2 : j < rs.length), rowBad rs[j] l[j] = false ∧ inB l[j] rs[j].legs = true) → outE rs true t = 0
  | [], _ => by simp [outE]
  | l :: t, h => by
    obtain ⟨h1, h2⟩ := h l (by simp)
    rw [outE, if_neg (by simpa using h1), midE_it _ l rs h1 h2]
    exact outE_it rs t (fun x hx => h x (by simp [hx]))
theorem truthF_ok {p : Post} (h0 : postErr p = 0) {z : List Int} (hz : z.length = p.sends.length) : shapeErr p (truthF p z) = 0 ∧ TruthSmall (truthF p z) := by
  have l1 := (postErr_ok h0).1
  have l2 := (postErr_ok h0).2.1
  have hrow : ∀ l ∈ truthF p z, ∃ i, i < p.sends.length ∧ l = truthRow p i (z.getD i 0) := by
    intro l hl
    obtain ⟨i, hi, rfl⟩ := List.mem_map.1 hl
    exact ⟨i, by have := List.mem_range.1 hi; omega, rfl⟩
  refine ⟨?_, ?_, fun l hl => ?_, fun l hl ts hts => ?_⟩
  · unfold shapeErr
    rw [if_neg (by simp [truthF, hz])]
    refine outE_it _ _ (fun l hl => ?_)
    obtain ⟨i, hi, rfl⟩ := hrow l hl
    refine ⟨by simp [truthRow], fun j h1 h2 => ?_⟩
    rw [show (truthRow p i (z.getD i 0))[j] = truth1 p i (z.getD i 0) j by simp [truthRow]]
    exact truth1_fit h0 hi h2 _
  · simp [truthF]; omega
  · obtain ⟨i, hi, rfl⟩ := hrow l hl
    simp [truthRow]; omega
  · obtain ⟨i, hi, rfl⟩ := hrow l hl
    obtain ⟨j, hj, rfl⟩ := List.mem_map.1 hts
    have hj' := List.mem_range.1 hj
    have hr := (truth1_fit h0 hi hj' (z.getD i 0)).1
    have l3 := (post_legs h0 p.routes[j] (List.getElem_mem hj')).1
    unfold rowBad at hr
    simp at hr
    by_cases he : truth1 p i (z.getD i 0) j = []
    · rw [he]; simp
    · have h9 : (truth1 p i (z.getD i 0) j).length = p.routes[j].legs.length := by
        apply hr
        exact Or.inr (by simpa using he)
      omega
theorem explain_ok {p : Post} {l : List Ent} (hb : bookErr p l = 0) {z : List Int} (hz : searchF p l = some z) : shapeErr p (truthF p z) = 0 ∧ TruthSmall (truthF p z) ∧ explsB p (truthF p z) l = true := by
  obtain ⟨h0, _, hall⟩ := bookErr_ok' hb
  have hlz : z.length = p.sends.length := nextR_len _ _ _ z hz
  obtain ⟨h1, h2⟩ := truthF_ok h0 hlz
  refine ⟨h1, h2, ?_⟩
  unfold explsB
  rw [List.all_eq_true]
  intro e he
  have hen := List.all_eq_true.1 hall e he
  simp only [entOk, Bool.and_eq_true] at hen
  have hb := inR_iff.1 hen.1
  obtain ⟨m, hm⟩ : ∃ m : Nat, e.num = (m : Int) := ⟨e.num.toNat, by omega⟩
  have key := play_path h0 p.sends.length 0 0 z (by omega) hz m (by omega) e he (by rw [hm, Nat.zero_add])
  unfold explOk playF
  rw [truthF_rows, hm, Int.toNat_natCast]
  refine decide_eq_true ?_
  rw [List.getD_eq_getElem?_getD, key]; rfl
end Go.Proofs.Ytfclemnkcpadpaa
