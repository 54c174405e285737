/- what copies' laws call, with what it yields under a name -/
import Derived.Test.YtfclemnkcpadpaaRl
import Derived.Test.YtfclemnkcpadpaaLf
namespace Go.Proofs.Ytfclemnkcpadpaa
set_option linter.unusedVariables false
set_option linter.unusedSimpArgs false
set_option linter.unnecessarySimpa false
open Go.RowKit Go.Flow

theorem thin_small {p : Post} (h : thinB p = true) : PostSmall p := by
  simp only [thinB, Bool.and_eq_true, decide_eq_true_eq, List.all_eq_true, routeThin] at h
  obtain ⟨⟨h1, h2⟩, h3⟩ := h
  exact ⟨by omega, by omega, fun r hr => by have := (h3 r hr).1; omega, fun r hr l hl => by have := (h3 r hr).2 l hl; omega⟩
theorem short_small {t : List (List (List Int))} (h : shortB t = true) : TruthSmall t := by
  simp only [shortB, Bool.and_eq_true, decide_eq_true_eq, List.all_eq_true, rowsShort] at h
  obtain ⟨h1, h3⟩ := h
  exact ⟨by omega, fun l hl => by have := (h3 l hl).1; omega, fun l hl x hx => by have := (h3 l hl).2 x hx; omega⟩
section
variable (a : Option Addr) (c : Nat) (ar : Option Addr) (cr : Nat) (p : Post) (w : World)
theorem thin_eq (B : Bool) (h : Hid (thinB p = B)) (hr : RoutesAt w ar p.routes) (big : PostBig p) :
    Calls Try.prog 17 #[.agg #[.slice a p.sends.length c, .slice ar p.routes.length cr, .int .i64 p.pat]] w fun e w' => e = .returned (.bool B) ∧ Below w.heap.size w w' := by
  rw [← h.out]
  have e : maxLen ≤ 9223372036854775807 := by unfold maxLen; omega
  exact thin_any a c ar cr p w hr (by have := big.s; omega) (by have := big.r; omega) (fun r hr => ⟨by have := (big.l r hr).l; omega, fun l hl => by have := (big.l r hr).a l hl; omega⟩)
theorem short_eq (at_ : Option Addr) (t : List (List (List Int))) (ct : Nat) (B : Bool) (h : Hid (shortB t = B)) (ht : TruthAt w at_ t) (big : TruthBig t) :
    Calls Try.prog 18 #[.slice at_ t.length ct] w fun e w' => e = .returned (.bool B) ∧ Below w.heap.size w w' := by
  rw [← h.out]
  have e : maxLen ≤ 9223372036854775807 := by unfold maxLen; omega
  exact short_any at_ t ct w ht ⟨by have := big.a; omega, fun l hl => by have := big.b l hl; omega, fun l hl x hx => by have := big.c l hl x hx; omega⟩
theorem chk_eq (E : Int) (h : Hid (postErr p = E)) (hs : IntsAt w a p.sends) (hr : RoutesAt w ar p.routes) (sm : Hid (PostSmall p)) :
    Calls Try.prog 20 #[.agg #[.slice a p.sends.length c, .slice ar p.routes.length cr, .int .i64 p.pat]] w fun e w' => e = .returned (.int .i64 E) ∧ Below w.heap.size w w' := by
  rw [← h.out]; exact checkPost_any a c ar cr p w hs hr sm.out
theorem fault_eq (E : Int) (h : Hid (postErr p = E)) (hs : IntsAt w a p.sends) (hr : RoutesAt w ar p.routes) (sm : Hid (PostSmall p)) :
    Calls Try.prog 24 #[.agg #[.slice a p.sends.length c, .slice ar p.routes.length cr, .int .i64 p.pat]] w fun e w' => e = .returned (.int .i64 E) ∧ Below w.heap.size w w' := by
  rw [← h.out]; exact fault_any a c ar cr p w hs hr sm.out
theorem post_eq (hs : IntsAt w a p.sends) (hr : RoutesAt w ar p.routes) (sm : Hid (PostSmall p)) (na : a = none → c = 0) :
    Calls Try.prog 21 #[.agg #[.slice a p.sends.length c, .slice ar p.routes.length cr, .int .i64 p.pat]] w fun e w' => (∃ a c ar cr, e = .returned (.agg #[.slice a p.sends.length c, .slice ar p.routes.length cr, .int .i64 p.pat]) ∧ IntsAt w' a p.sends ∧ RoutesAt w' ar p.routes) ∧ Below w.heap.size w w' := postConv_any a c ar cr p w hs hr sm.out na
theorem truth_eq (at_ : Option Addr) (t : List (List (List Int))) (ct : Nat) (ht : TruthAt w at_ t) (st : Hid (TruthSmall t)) :
    Calls Try.prog 23 #[.slice at_ t.length ct] w fun e w' => (∃ a c, e = .returned (.slice a t.length c) ∧ TruthAt w' a t) ∧ Below w.heap.size w w' :=
  (truthConv_any at_ t ct w ht st.out.n st.out.l st.out.r).mono fun _ _ ⟨⟨a, c, he, ho⟩, hb⟩ => ⟨⟨a, c, he, ho.at⟩, hb⟩
theorem play_eq (at_ : Option Addr) (t : List (List (List Int))) (ct : Nat) (E : Int) (O : List Ent) (n : Nat) (hE : Hid (playErr p t = E)) (hO : Hid (playOut p t = O)) (hn : Hid (O.length = n)) (hs : IntsAt w a p.sends) (hr : RoutesAt w ar p.routes) (sm : Hid (PostSmall p)) (ht : TruthAt w at_ t) (st : Hid (TruthSmall t)) :
    Calls Try.prog 22 #[.agg #[.slice a p.sends.length c, .slice ar p.routes.length cr, .int .i64 p.pat], .slice at_ t.length ct] w fun e w' => (∃ a c, e = .returned (.tuple #[.slice a n c, .int .i64 E]) ∧ EntsAt w' a O) ∧ Below w.heap.size w w' := by
  rw [← hE.out, ← hn.out, ← hO.out]; exact Play_any a c ar cr p at_ ct t w hs hr sm.out ht st.out
theorem tfault_eq (at_ : Option Addr) (t : List (List (List Int))) (ct : Nat) (E : Int) (h : Hid (shapeErr p t = E)) (hr : RoutesAt w ar p.routes) (sm : Hid (PostSmall p)) (ht : TruthAt w at_ t) (st : Hid (TruthSmall t)) :
    Calls Try.prog 25 #[.agg #[.slice a p.sends.length c, .slice ar p.routes.length cr, .int .i64 p.pat], .slice at_ t.length ct] w fun e w' => e = .returned (.int .i64 E) ∧ Below w.heap.size w w' := by
  rw [← h.out]; exact truthFault_any a c ar cr p at_ ct t w hr ht sm.out.s sm.out.r sm.out.l st.out.n st.out.l st.out.r
theorem rplay_eq (at_ : Option Addr) (t : List (List (List Int))) (ct : Nat) (O : List Ent) (n : Nat) (hO : Hid (playF p t = O)) (hn : Hid (O.length = n)) (hs : IntsAt w a p.sends) (hr : RoutesAt w ar p.routes) (ht : TruthAt w at_ t) (ok : Hid (PlayOk p t)) :
    Calls Try.prog 27 #[.agg #[.slice a p.sends.length c, .slice ar p.routes.length cr, .int .i64 p.pat], .slice at_ t.length ct] w fun e w' => (∃ a c, e = .returned (.slice a n c) ∧ EntsAt w' a O) ∧ Below w.heap.size w w' := by
  have hl : t.length = n := by rw [← hn.out, ← hO.out]; exact (playGo_len p t 0 0).symm
  rw [← hl, ← hO.out]; exact refPlay_any a c ar cr p at_ ct t w hs hr ht ok.out
end
/-- The box of the post. -/
theorem box_cells {w w1 : World} {cs : Array Value} {T : TypeId} (hb : Below (w.alloc (.cells cs T)).heap.size (w.alloc (.cells cs T)) w1) (k : Nat) {v : Value} (hk : cs[k]? = some v) : w1.cell? ⟨w.heap.size, k, none⟩ = some v := by
  rw [((Cells.new w cs T).below hb).cell]; exact hk
end Go.Proofs.Ytfclemnkcpadpaa
