/- own lists of the reference's types; contracts for posts whose lengths are named -/
import Derived.Test.YtfclemnkcpadpaaLf
import Derived.Test.YtfclemnkcpadpaaRj
namespace Go.Proofs.Ytfclemnkcpadpaa
set_option linter.unusedVariables false
set_option linter.unusedSimpArgs false
set_option linter.unnecessarySimpa false
open Go.RowKit Go.Flow Go.Shelf

theorem info_rrange : (Try.prog.info? 64).map (fun i => (i.zero, i.size, i.bytes)) = some (some (.agg #[.int .i64 0, .int .i64 0]), 2, 16) := by kernel_rfl
theorem el_rranges : Elem Try.prog 84 64 (.agg #[.int .i64 0, .int .i64 0]) 2 16 := ⟨Try.underlying84, info_parts info_rrange, rfl, by decide⟩
theorem info_rleg : (Try.prog.info? 86).map (fun i => (i.zero, i.size, i.bytes)) = some (some (.agg #[.int .i64 0, .int .i64 0, .slice none 0 0]), 3, 40) := by kernel_rfl
theorem el_rlegs : Elem Try.prog 52 86 (.agg #[.int .i64 0, .int .i64 0, .slice none 0 0]) 3 40 := ⟨Try.underlying52, info_parts info_rleg, rfl, by decide⟩
theorem info_rroute : (Try.prog.info? 54).map (fun i => (i.zero, i.size, i.bytes)) = some (some (.agg #[.slice none 0 0, .bool false]), 2, 32) := by kernel_rfl
theorem el_rroutes : Elem Try.prog 23 54 (.agg #[.slice none 0 0, .bool false]) 2 32 := ⟨Try.underlying23, info_parts info_rroute, rfl, by decide⟩

def RAslOwn (B : Nat) (w : World) (p : Option Addr × Nat) (l : Leg) : Prop := OwnL 64 2 B w p.1 p.2 l.asl.length (flat2 l.asl)
def RLegsOwn (B : Nat) (w : World) (p : Option Addr × Nat) (ls : List Leg) (n : Nat) : Prop := NestOwn 86 3 legV (RAslOwn B) B w p.1 p.2 ls n
def RRoutesOwn (B : Nat) (w : World) (p : Option Addr × Nat) (rs : List Route) (n : Nat) : Prop := NestOwn 54 2 routeV (fun w p r => RLegsOwn B w p r.legs r.legs.length) B w p.1 p.2 rs n
theorem RAslOwn.kept {B : Nat} {w w' : World} {p : Option Addr × Nat} {x : Leg} (h : RAslOwn B w p x) (hb : Below w.heap.size w w') : RAslOwn B w' p x := OwnL.kept h hb
theorem RLegsOwn.kept {B : Nat} {w w' : World} {p : Option Addr × Nat} {l : List Leg} {n : Nat} (h : RLegsOwn B w p l n) (hb : Below w.heap.size w w') : RLegsOwn B w' p l n := NestOwn.kept h hb fun _ _ h => h.kept hb
theorem RLegsOwn.base_le {B B' : Nat} {w : World} {p : Option Addr × Nat} {l : List Leg} {n : Nat} (h : RLegsOwn B w p l n) (hb : B' ≤ B) : RLegsOwn B' w p l n := (NestOwn.base_le h hb).sub fun _ _ h => OwnL.base_le h hb
theorem RRoutesOwn.kept {B : Nat} {w w' : World} {p : Option Addr × Nat} {l : List Route} {n : Nat} (h : RRoutesOwn B w p l n) (hb : Below w.heap.size w w') : RRoutesOwn B w' p l n := NestOwn.kept h hb fun _ _ h => h.kept hb
theorem RLegsOwn.at {B : Nat} {w : World} {p : Option Addr × Nat} {l : List Leg} (h : RLegsOwn B w p l l.length) : LegsAt w p.1 l := fun k hk => by
  obtain ⟨g, q, ha, hlt, hs, hc⟩ := NestOwn.at h (fun _ _ => rfl) (by omega) k hk
  refine ⟨g, 0, q.1, q.2, ha, hlt, ?_, ?_, ?_, OwnL.recs2 hs⟩
  · have := hc 0 _ (by omega) rfl
    rw [Nat.zero_add]; simpa using this
  · have := hc 1 _ (by omega) rfl
    rw [Nat.zero_add]; simpa using this
  · have := hc 2 _ (by omega) rfl
    rw [Nat.zero_add]; simpa using this
theorem RRoutesOwn.at {B : Nat} {w : World} {p : Option Addr × Nat} {l : List Route} (h : RRoutesOwn B w p l l.length) : RoutesAt w p.1 l := fun k hk => by
  obtain ⟨g, q, ha, hlt, hs, hc⟩ := NestOwn.at h (fun _ _ => rfl) (by omega) k hk
  refine ⟨g, 0, q.1, q.2, ha, hlt, ?_, ?_, hs.at⟩
  · have := hc 0 _ (by omega) rfl
    rw [Nat.zero_add]; simpa using this
  · have := hc 1 _ (by omega) rfl
    rw [Nat.zero_add]; simpa using this
/-- A store into a block of another type. -/
theorem RLegsOwn.setAt {B : Nat} {w : World} {p : Option Addr × Nat} {l : List Leg} {n : Nat} (h : RLegsOwn B w p l n) {g : Nat} {cs : Array Value} {T : TypeId} (hc : Cells w g cs T) (h1 : T ≠ 86) (h2 : T ≠ 64) (k : Nat) (v : Value) : RLegsOwn B (w.setCell ⟨g, k, none⟩ v) p l n := by
  obtain ⟨ps, q1, q2, q3⟩ := h
  exact ⟨ps, q1, q2.setAt hc h1 k v, fun q x p hx hp => OwnL.setAt (q3 q x p hx hp) hc h2 k v⟩
theorem RRoutesOwn.setAt {B : Nat} {w : World} {p : Option Addr × Nat} {l : List Route} {n : Nat} (h : RRoutesOwn B w p l n) {g : Nat} {cs : Array Value} {T : TypeId} (hc : Cells w g cs T) (h0 : T ≠ 54) (h1 : T ≠ 86) (h2 : T ≠ 64) (k : Nat) (v : Value) : RRoutesOwn B (w.setCell ⟨g, k, none⟩ v) p l n := by
  obtain ⟨ps, q1, q2, q3⟩ := h
  exact ⟨ps, q1, q2.setAt hc h0 k v, fun q x p hx hp => (q3 q x p hx hp).setAt hc h1 h2 k v⟩

section
variable {a : Option Addr} {c : Nat} {ar : Option Addr} {cr : Nat} {X : Post} {w : World} {N R : Nat} {pt : Int} (hN : Hid (X.sends.length = N)) (hR : Hid (X.routes.length = R)) (hp : Hid (X.pat = pt))
include hN hR hp
theorem faultN_eq (E : Int) (h : Hid (postErr X = E)) (hs : IntsAt w a X.sends) (hr : RoutesAt w ar X.routes) (sm : Hid (PostSmall X)) :
    Calls Try.prog 24 #[.agg #[.slice a N c, .slice ar R cr, .int .i64 pt]] w fun e w' => e = .returned (.int .i64 E) ∧ Below w.heap.size w w' := by
  obtain ⟨rfl⟩ := hN; obtain ⟨rfl⟩ := hR; obtain ⟨rfl⟩ := hp
  exact fault_eq a c ar cr X w E h hs hr sm
theorem readyN_eq (B : Bool) (h : Hid (readyB X = B)) (hs : IntsAt w a X.sends) (hr : RoutesAt w ar X.routes) (big : PostBig X) :
    Calls Try.prog 44 #[.agg #[.slice a N c, .slice ar R cr, .int .i64 pt]] w fun e w' => e = .returned (.bool B) ∧ Below w.heap.size w w' := by
  obtain ⟨rfl⟩ := hN; obtain ⟨rfl⟩ := hR; obtain ⟨rfl⟩ := hp
  exact ready_eq a c ar cr X w B h hs hr big
theorem postN_eq (hs : IntsAt w a X.sends) (hr : RoutesAt w ar X.routes) (sm : Hid (PostSmall X)) (na : a = none → c = 0) :
    Calls Try.prog 21 #[.agg #[.slice a N c, .slice ar R cr, .int .i64 pt]] w fun e w' => (∃ a c ar cr, e = .returned (.agg #[.slice a N c, .slice ar R cr, .int .i64 pt]) ∧ IntsAt w' a X.sends ∧ RoutesAt w' ar X.routes) ∧ Below w.heap.size w w' := by
  obtain ⟨rfl⟩ := hN; obtain ⟨rfl⟩ := hR; obtain ⟨rfl⟩ := hp
  exact post_eq a c ar cr X w hs hr sm na
theorem hoursN_eq (i r : Int) (E : Int) (O : List Int) (n : Nat) (hE : Hid (hoursErr X i r = E)) (hO : Hid (hoursOut X i r = O)) (hn : Hid (O.length = n)) (hs : IntsAt w a X.sends) (hr : RoutesAt w ar X.routes) (sm : Hid (PostSmall X)) :
    Calls Try.prog 28 #[.agg #[.slice a N c, .slice ar R cr, .int .i64 pt], .int .i64 i, .int .i64 r] w fun e w' => (∃ a c, e = .returned (.tuple #[.slice a n c, .int .i64 E]) ∧ IntsAt w' a O) ∧ Below w.heap.size w w' := by
  obtain ⟨rfl⟩ := hN; obtain ⟨rfl⟩ := hR; obtain ⟨rfl⟩ := hp
  exact hours_eq a c ar cr X w i r E O n hE hO hn hs hr sm
theorem spansN_eq (E : Int) (O : List (Int × Int)) (n : Nat) (hE : Hid (postErr X = E)) (hO : Hid (spansOut X = O)) (hn : Hid (O.length = n)) (hs : IntsAt w a X.sends) (hr : RoutesAt w ar X.routes) (sm : Hid (PostSmall X)) :
    Calls Try.prog 32 #[.agg #[.slice a N c, .slice ar R cr, .int .i64 pt]] w fun e w' => (∃ a c, e = .returned (.tuple #[.slice a n c, .int .i64 E]) ∧ Recs2At w' a O) ∧ Below w.heap.size w w' := by
  obtain ⟨rfl⟩ := hN; obtain ⟨rfl⟩ := hR; obtain ⟨rfl⟩ := hp
  exact spans_eq a c ar cr X w E O n hE hO hn hs hr sm
theorem sureN_eq (E : Int) (O : List Int) (n : Nat) (hE : Hid (postErr X = E)) (hO : Hid (sureOut X = O)) (hn : Hid (O.length = n)) (hs : IntsAt w a X.sends) (hr : RoutesAt w ar X.routes) (sm : Hid (PostSmall X)) :
    Calls Try.prog 33 #[.agg #[.slice a N c, .slice ar R cr, .int .i64 pt]] w fun e w' => (∃ a c, e = .returned (.tuple #[.slice a n c, .int .i64 E]) ∧ IntsAt w' a O) ∧ Below w.heap.size w w' := by
  obtain ⟨rfl⟩ := hN; obtain ⟨rfl⟩ := hR; obtain ⟨rfl⟩ := hp
  exact sure_eq a c ar cr X w E O n hE hO hn hs hr sm
end
theorem u8_bd {y : Int} (h : (Lit.int .u8 y).wf = true) : ∃ m : Nat, y = (m : Int) ∧ m ≤ 255 := by
  have : 0 ≤ y ∧ y ≤ 255 := by simp [Lit.wf, IntKind.min, IntKind.max, IntKind.bits, IntKind.signed] at h; omega
  exact ⟨y.toNat, by omega, by omega⟩
end Go.Proofs.Ytfclemnkcpadpaa
