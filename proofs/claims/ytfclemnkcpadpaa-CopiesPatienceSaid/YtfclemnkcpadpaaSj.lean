/- words as an argument; contracts for truths chosen by words -/
import Derived.Test.YtfclemnkcpadpaaSi
import Derived.Test.YtfclemnkcpadpaaLf
import Derived.Test.YtfclemnkcpadpaaPj
namespace Go.Proofs.Ytfclemnkcpadpaa
set_option linter.unusedVariables false
set_option linter.unusedSimpArgs false
set_option linter.unnecessarySimpa false
open Go.RowKit Go.Flow
open Go.ChangeShapes Go.WideShapes Go.ChangeAt Go.Deep Go.Joins

section
variable {H : Type} {enc : TypeId × Value → H} {w : World} {base : Nat} {spare : Nat → Bool} {held : Bool}
def U16C (x : Int) (cs : List Value) : Prop := cs = [.int .u16 x] ∧ (Lit.int .u16 x).wf = true
set_option maxRecDepth 100000 in
theorem open_words {r : Reach} {b0 : Nat} {v : Value} {d : DataW H} {p : List MemPlace} (hv : Value.okWide Try.prog w r b0 79 v) (h : DataW.Trod enc Try.prog w base spare held 79 v d p) :
    ∃ (a : Option Addr) (xs : List Int) (c : Nat), v = .slice a xs.length c ∧ U16At w a xs ∧ (a = none → c = 0) ∧ xs.length ≤ c ∧ c ≤ maxLen ∧ U16s xs := by
  obtain ⟨a0, len0, cap0, rfl⟩ := okWide_slice Try.underlying79 hv
  obtain ⟨fuel, hf⟩ := h
  obtain ⟨a, xs, c, e, h2, h3, h4, h5⟩ := open_each 0 Try.underlying79 1 (by kernel_rfl) (by omega) U16C (fun n cs' y ht hl => by obtain ⟨z, e, _, hz⟩ := DataW.trod_int Try.underlying165 ht; exact ⟨z, e, by simpa using hz⟩) hf
  simp [Value.cells] at e
  obtain ⟨rfl, rfl, rfl⟩ := e
  refine ⟨_, xs, _, rfl, fun k hk => ?_, h2, h3, h4, fun x hx => ?_⟩
  · obtain ⟨b, off, cs', ha, hb, ⟨hr, _⟩, hc⟩ := h5 k hk
    rw [hr] at hc
    exact ⟨b, off, ha, hb, by have := hc 0 _ rfl; simpa using this⟩
  · obtain ⟨k, hk, rfl⟩ := List.getElem_of_mem hx
    obtain ⟨b, off, cs', ha, hb, ⟨_, hr⟩, hc⟩ := h5 k hk
    simp [Lit.wf, IntKind.min, IntKind.max, IntKind.bits, IntKind.signed] at hr
    omega
end
theorem pkT_len (p : Post) (ws : List Int) : (pkT p ws).length = p.sends.length := by simp [pkT]
theorem pickedT_eq (a : Option Addr) (c : Nat) (ar : Option Addr) (cr : Nat) (p : Post) (aw : Option Addr) (ws : List Int) (cw : Nat) (w : World) (t : List (List (List Int))) (ht : Hid (pkT p ws = t)) (hs : IntsAt w a p.sends) (hr : RoutesAt w ar p.routes) (hw : U16At w aw ws) (hu : Hid (U16s ws)) (lw : ws.length ≤ 9223372036854775807) (H0 : Hid (postErr p = 0)) :
    Calls Try.prog 46 #[.agg #[.slice a p.sends.length c, .slice ar p.routes.length cr, .int .i64 p.pat], .slice aw ws.length cw] w fun e w' => (∃ a c, e = .returned (.slice a p.sends.length c) ∧ TruthAt w' a t ∧ (a = none → c = 0)) ∧ Below w.heap.size w w' :=
  (truthPicked_any a c ar cr p aw ws cw w hs hr hw hu.out lw H0).mono fun e w' ⟨⟨a1, c1, he, ho⟩, hb⟩ => by
    refine ⟨⟨a1, c1, he, ?_, fun h => ?_⟩, hb⟩
    · rw [← ht.out]
      refine TruthOwn.at (p := (a1, c1)) (B := w.heap.size) ?_
      rw [pkT_len]; exact ho
    · subst h; exact (NestOwn.isnil ho).2
theorem truthN_eq (at_ : Option Addr) (t : List (List (List Int))) (N ct : Nat) (hN : Hid (t.length = N)) (w : World) (ht : TruthAt w at_ t) (st : Hid (TruthSmall t)) :
    Calls Try.prog 23 #[.slice at_ N ct] w fun e w' => (∃ a c, e = .returned (.slice a N c) ∧ TruthAt w' a t) ∧ Below w.heap.size w w' := by
  obtain ⟨rfl⟩ := hN
  exact truth_eq w at_ t ct ht st
theorem playN_eq (a : Option Addr) (c : Nat) (ar : Option Addr) (cr : Nat) (p : Post) (w : World) (at_ : Option Addr) (t : List (List (List Int))) (N ct : Nat) (hN : Hid (t.length = N)) (E : Int) (O : List Ent) (n : Nat) (hE : Hid (playErr p t = E)) (hO : Hid (playOut p t = O)) (hn : Hid (O.length = n)) (hs : IntsAt w a p.sends) (hr : RoutesAt w ar p.routes) (sm : Hid (PostSmall p)) (ht : TruthAt w at_ t) (st : Hid (TruthSmall t)) :
    Calls Try.prog 22 #[.agg #[.slice a p.sends.length c, .slice ar p.routes.length cr, .int .i64 p.pat], .slice at_ N ct] w fun e w' => (∃ a c, e = .returned (.tuple #[.slice a n c, .int .i64 E]) ∧ EntsAt w' a O) ∧ Below w.heap.size w w' := by
  obtain ⟨rfl⟩ := hN
  exact play_eq a c ar cr p w at_ t ct E O n hE hO hn hs hr sm ht st
theorem playXN_eq (a : Option Addr) (c : Nat) (ar : Option Addr) (cr : Nat) (p : Post) (x : Int) (w : World) (at_ : Option Addr) (t : List (List (List Int))) (N ct : Nat) (hN : Hid (t.length = N)) (E : Int) (O : List Ent) (n : Nat) (hE : Hid (playErr (withPat p x) t = E)) (hO : Hid (playOut (withPat p x) t = O)) (hn : Hid (O.length = n)) (hs : IntsAt w a p.sends) (hr : RoutesAt w ar p.routes) (sm : Hid (PostSmall p)) (ht : TruthAt w at_ t) (st : Hid (TruthSmall t)) :
    Calls Try.prog 22 #[.agg #[.slice a p.sends.length c, .slice ar p.routes.length cr, .int .i64 x], .slice at_ N ct] w fun e w' => (∃ a c, e = .returned (.tuple #[.slice a n c, .int .i64 E]) ∧ EntsAt w' a O) ∧ Below w.heap.size w w' :=
  playN_eq a c ar cr (withPat p x) w at_ t N ct hN E O n hE hO hn hs hr (Lib.hid (pat_small sm.out x)) ht st
end Go.Proofs.Ytfclemnkcpadpaa
