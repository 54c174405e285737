/- copies: marks of ranges in a frame; sets as blocks -/
import Derived.Test.YtfclemnkcpadpaaKj
import Derived.Test.YtfclemnkcpadpaaFlin
namespace Go.Proofs.Ytfclemnkcpadpaa
set_option linter.unusedVariables false
set_option linter.unusedSimpArgs false
set_option linter.unnecessarySimpa false
open Go.RowKit Go.Flow Go.Shelf

/-- The frame bears the marks of ranges that are over, and nothing else to be done. -/
def Marks (base : Nat) (ds : List Deferred) (w : World) : Prop := ∃ Ds : List Nat, ds = Ds.map (fun D => { target := .collected D, args := #[] }) ∧ Ds.Nodup ∧ ∀ D ∈ Ds, base ≤ D ∧ w.heap[D]? = some (.deferred (some []))
theorem Marks.nil (base : Nat) (w : World) : Marks base [] w := ⟨[], rfl, List.nodup_nil, fun D h => by simp at h⟩
theorem Marks.kept {base : Nat} {ds : List Deferred} {w w' : World} (h : Marks base ds w) (hk : ∀ D : Nat, w.heap[D]? = some (Obj.deferred (some [])) → w'.heap[D]? = some (Obj.deferred (some []))) : Marks base ds w' := by
  obtain ⟨Ds, e, hn, hD⟩ := h
  exact ⟨Ds, e, hn, fun D hd => ⟨(hD D hd).1, hk D (hD D hd).2⟩⟩
theorem Marks.below {base : Nat} {ds : List Deferred} {w w' : World} (h : Marks base ds w) (hb : Below w.heap.size w w') : Marks base ds w' :=
  h.kept fun D hD => (hb.block D (Array.getElem?_eq_some_iff.1 hD).1).trans hD
theorem Marks.grown {base : Nat} {bm : Nat} {ds : List Deferred} {w w' : World} (h : Marks base ds w) (hg : w.grownBy w' (some bm)) (hm : ∀ ds, w.heap[bm]? ≠ some (Obj.deferred ds)) : Marks base ds w' :=
  h.kept fun D hD => (hg.block D (Array.getElem?_eq_some_iff.1 hD).1 (fun e => by cases e; exact hm _ hD)).trans hD
theorem Marks.cons {base : Nat} {ds : List Deferred} {w w' : World} (h : Marks base ds w) (hb : Below w.heap.size w w') {D : Nat} (hD : w.heap.size ≤ D) (hB : base ≤ D) (hK : w'.heap[D]? = some (.deferred (some []))) : Marks base ({ target := .collected D, args := #[] } :: ds) w' := by
  have h' := h.below hb
  obtain ⟨Ds, e, hn, hd⟩ := h
  obtain ⟨Ds', e', hn', hd'⟩ := h'
  refine ⟨D :: Ds, by rw [e]; rfl, List.nodup_cons.2 ⟨fun hm => ?_, hn⟩, fun D' hm => ?_⟩
  · have := (Array.getElem?_eq_some_iff.1 (hd D hm).2).1
    omega
  · rcases List.mem_cons.1 hm with rfl | hm
    · exact ⟨hB, hK⟩
    · exact ⟨(hd D' hm).1, (hb.block D' (Array.getElem?_eq_some_iff.1 (hd D' hm).2).1).trans (hd D' hm).2⟩
/-- At the return the marks are taken off: blocks from base on that are no cells are turned, and nothing else. -/
def Turned (base : Nat) (w w' : World) : Prop := Below base w w' ∧ w.heap.size = w'.heap.size ∧ (∀ a v, w.cell? a = some v → w'.cell? a = some v) ∧ ∀ (b : Nat) (o : Obj), w.heap[b]? = some o → (∀ ds, o ≠ .deferred ds) → w'.heap[b]? = some o
theorem leaves_marks {F : Fence} {n : Nat} {P : Program} {fn : Func} {tmps : Array Value} {R : Ending → World → Prop} {base : Nat} : ∀ (ds : List Deferred) (w : World), Marks base ds w →
    (∀ w', Turned base w w' → ∃ v, (results fn tmps).run P w' = .ok v w' ∧ R (.returned v) w') → LeavesInM F n P fn tmps R ds .returning w
  | [], w, _, h => h w ⟨Below.refl _ _, rfl, fun _ _ h => h, fun _ _ h _ => h⟩
  | d :: ds, w, hm, h => by
    obtain ⟨Ds, e, hn, hd⟩ := hm
    cases Ds with
    | nil => simp at e
    | cons D Ds =>
      simp only [List.map_cons, List.cons.injEq] at e
      obtain ⟨rfl, rfl⟩ := e
      have hD := hd D (by simp)
      have hg := grownBy_putObj' w D (.deferred none)
      refine ⟨by simp, .inl ⟨D, _, rfl, run_takeDeferred hD.2, ?_⟩⟩
      have hn2 := List.nodup_cons.1 hn
      refine leaves_marks _ _ ⟨Ds, rfl, hn2.2, fun D' hm => ⟨(hd D' (by simp [hm])).1, ?_⟩⟩ fun w' hw' => h w' ⟨?_, ?_, ?_, ?_⟩
      · refine (hg.block D' (Array.getElem?_eq_some_iff.1 (hd D' (by simp [hm])).2).1 (fun e => ?_)).trans (hd D' (by simp [hm])).2
        cases e; exact hn2.1 hm
      · exact ((Below.refl base w).grown hg (by have := (Array.getElem?_eq_some_iff.1 hD.2).1; omega) (fun k e => by cases e; exact hD.1)).trans hw'.1
      · rw [← hw'.2.1]; simp
      · exact fun a v hc => hw'.2.2.1 a v (cell_kept hc hg (fun r e => by cases e; exact ⟨_, hD.2, rfl⟩))
      · exact fun b o hb ho => hw'.2.2.2 b o ((hg.block b (Array.getElem?_eq_some_iff.1 hb).1 (fun e => by cases e; rw [hD.2] at hb; cases hb; exact ho _ rfl)).trans hb) ho

theorem act_elim (motive : Act → Prop) {A : Act} (h : A.tmps.size = 89) (hm : ∀ (ds : List Deferred) (x0 x1 x2 x3 x4 x5 x6 x7 x8 x9 x10 x11 x12 x13 x14 x15 x16 x17 x18 x19 x20 x21 x22 x23 x24 x25 x26 x27 x28 x29 x30 x31 x32 x33 x34 x35 x36 x37 x38 x39 x40 x41 x42 x43 x44 x45 x46 x47 x48 x49 x50 x51 x52 x53 x54 x55 x56 x57 x58 x59 x60 x61 x62 x63 x64 x65 x66 x67 x68 x69 x70 x71 x72 x73 x74 x75 x76 x77 x78 x79 x80 x81 x82 x83 x84 x85 x86 x87 x88 : Value), motive ⟨#[x0, x1, x2, x3, x4, x5, x6, x7, x8, x9, x10, x11, x12, x13, x14, x15, x16, x17, x18, x19, x20, x21, x22, x23, x24, x25, x26, x27, x28, x29, x30, x31, x32, x33, x34, x35, x36, x37, x38, x39, x40, x41, x42, x43, x44, x45, x46, x47, x48, x49, x50, x51, x52, x53, x54, x55, x56, x57, x58, x59, x60, x61, x62, x63, x64, x65, x66, x67, x68, x69, x70, x71, x72, x73, x74, x75, x76, x77, x78, x79, x80, x81, x82, x83, x84, x85, x86, x87, x88], ds⟩) : motive A := by
  obtain ⟨⟨l⟩, ds⟩ := A
  replace h : l.length = 89 := h
  obtain ⟨x0, l, rfl⟩ := List.exists_cons_of_length_eq_add_one h
  replace h : l.length = 88 := by simpa using h
  obtain ⟨x1, l, rfl⟩ := List.exists_cons_of_length_eq_add_one h
  replace h : l.length = 87 := by simpa using h
  obtain ⟨x2, l, rfl⟩ := List.exists_cons_of_length_eq_add_one h
  replace h : l.length = 86 := by simpa using h
  obtain ⟨x3, l, rfl⟩ := List.exists_cons_of_length_eq_add_one h
  replace h : l.length = 85 := by simpa using h
  obtain ⟨x4, l, rfl⟩ := List.exists_cons_of_length_eq_add_one h
  replace h : l.length = 84 := by simpa using h
  obtain ⟨x5, l, rfl⟩ := List.exists_cons_of_length_eq_add_one h
  replace h : l.length = 83 := by simpa using h
  obtain ⟨x6, l, rfl⟩ := List.exists_cons_of_length_eq_add_one h
  replace h : l.length = 82 := by simpa using h
  obtain ⟨x7, l, rfl⟩ := List.exists_cons_of_length_eq_add_one h
  replace h : l.length = 81 := by simpa using h
  obtain ⟨x8, l, rfl⟩ := List.exists_cons_of_length_eq_add_one h
  replace h : l.length = 80 := by simpa using h
  obtain ⟨x9, l, rfl⟩ := List.exists_cons_of_length_eq_add_one h
  replace h : l.length = 79 := by simpa using h
  obtain ⟨x10, l, rfl⟩ := List.exists_cons_of_length_eq_add_one h
  replace h : l.length = 78 := by simpa using h
  obtain ⟨x11, l, rfl⟩ := List.exists_cons_of_length_eq_add_one h
  replace h : l.length = 77 := by simpa using h
  obtain ⟨x12, l, rfl⟩ := List.exists_cons_of_length_eq_add_one h
  replace h : l.length = 76 := by simpa using h
  obtain ⟨x13, l, rfl⟩ := List.exists_cons_of_length_eq_add_one h
  replace h : l.length = 75 := by simpa using h
  obtain ⟨x14, l, rfl⟩ := List.exists_cons_of_length_eq_add_one h
  replace h : l.length = 74 := by simpa using h
  obtain ⟨x15, l, rfl⟩ := List.exists_cons_of_length_eq_add_one h
  replace h : l.length = 73 := by simpa using h
  obtain ⟨x16, l, rfl⟩ := List.exists_cons_of_length_eq_add_one h
  replace h : l.length = 72 := by simpa using h
  obtain ⟨x17, l, rfl⟩ := List.exists_cons_of_length_eq_add_one h
  replace h : l.length = 71 := by simpa using h
  obtain ⟨x18, l, rfl⟩ := List.exists_cons_of_length_eq_add_one h
  replace h : l.length = 70 := by simpa using h
  obtain ⟨x19, l, rfl⟩ := List.exists_cons_of_length_eq_add_one h
  replace h : l.length = 69 := by simpa using h
  obtain ⟨x20, l, rfl⟩ := List.exists_cons_of_length_eq_add_one h
  replace h : l.length = 68 := by simpa using h
  obtain ⟨x21, l, rfl⟩ := List.exists_cons_of_length_eq_add_one h
  replace h : l.length = 67 := by simpa using h
  obtain ⟨x22, l, rfl⟩ := List.exists_cons_of_length_eq_add_one h
  replace h : l.length = 66 := by simpa using h
  obtain ⟨x23, l, rfl⟩ := List.exists_cons_of_length_eq_add_one h
  replace h : l.length = 65 := by simpa using h
  obtain ⟨x24, l, rfl⟩ := List.exists_cons_of_length_eq_add_one h
  replace h : l.length = 64 := by simpa using h
  obtain ⟨x25, l, rfl⟩ := List.exists_cons_of_length_eq_add_one h
  replace h : l.length = 63 := by simpa using h
  obtain ⟨x26, l, rfl⟩ := List.exists_cons_of_length_eq_add_one h
  replace h : l.length = 62 := by simpa using h
  obtain ⟨x27, l, rfl⟩ := List.exists_cons_of_length_eq_add_one h
  replace h : l.length = 61 := by simpa using h
  obtain ⟨x28, l, rfl⟩ := List.exists_cons_of_length_eq_add_one h
  replace h : l.length = 60 := by simpa using h
  obtain ⟨x29, l, rfl⟩ := List.exists_cons_of_length_eq_add_one h
  replace h : l.length = 59 := by simpa using h
  obtain ⟨x30, l, rfl⟩ := List.exists_cons_of_length_eq_add_one h
  replace h : l.length = 58 := by simpa using h
  obtain ⟨x31, l, rfl⟩ := List.exists_cons_of_length_eq_add_one h
  replace h : l.length = 57 := by simpa using h
  obtain ⟨x32, l, rfl⟩ := List.exists_cons_of_length_eq_add_one h
  replace h : l.length = 56 := by simpa using h
  obtain ⟨x33, l, rfl⟩ := List.exists_cons_of_length_eq_add_one h
  replace h : l.length = 55 := by simpa using h
  obtain ⟨x34, l, rfl⟩ := List.exists_cons_of_length_eq_add_one h
  replace h : l.length = 54 := by simpa using h
  obtain ⟨x35, l, rfl⟩ := List.exists_cons_of_length_eq_add_one h
  replace h : l.length = 53 := by simpa using h
  obtain ⟨x36, l, rfl⟩ := List.exists_cons_of_length_eq_add_one h
  replace h : l.length = 52 := by simpa using h
  obtain ⟨x37, l, rfl⟩ := List.exists_cons_of_length_eq_add_one h
  replace h : l.length = 51 := by simpa using h
  obtain ⟨x38, l, rfl⟩ := List.exists_cons_of_length_eq_add_one h
  replace h : l.length = 50 := by simpa using h
  obtain ⟨x39, l, rfl⟩ := List.exists_cons_of_length_eq_add_one h
  replace h : l.length = 49 := by simpa using h
  obtain ⟨x40, l, rfl⟩ := List.exists_cons_of_length_eq_add_one h
  replace h : l.length = 48 := by simpa using h
  obtain ⟨x41, l, rfl⟩ := List.exists_cons_of_length_eq_add_one h
  replace h : l.length = 47 := by simpa using h
  obtain ⟨x42, l, rfl⟩ := List.exists_cons_of_length_eq_add_one h
  replace h : l.length = 46 := by simpa using h
  obtain ⟨x43, l, rfl⟩ := List.exists_cons_of_length_eq_add_one h
  replace h : l.length = 45 := by simpa using h
  obtain ⟨x44, l, rfl⟩ := List.exists_cons_of_length_eq_add_one h
  replace h : l.length = 44 := by simpa using h
  obtain ⟨x45, l, rfl⟩ := List.exists_cons_of_length_eq_add_one h
  replace h : l.length = 43 := by simpa using h
  obtain ⟨x46, l, rfl⟩ := List.exists_cons_of_length_eq_add_one h
  replace h : l.length = 42 := by simpa using h
  obtain ⟨x47, l, rfl⟩ := List.exists_cons_of_length_eq_add_one h
  replace h : l.length = 41 := by simpa using h
  obtain ⟨x48, l, rfl⟩ := List.exists_cons_of_length_eq_add_one h
  replace h : l.length = 40 := by simpa using h
  obtain ⟨x49, l, rfl⟩ := List.exists_cons_of_length_eq_add_one h
  replace h : l.length = 39 := by simpa using h
  obtain ⟨x50, l, rfl⟩ := List.exists_cons_of_length_eq_add_one h
  replace h : l.length = 38 := by simpa using h
  obtain ⟨x51, l, rfl⟩ := List.exists_cons_of_length_eq_add_one h
  replace h : l.length = 37 := by simpa using h
  obtain ⟨x52, l, rfl⟩ := List.exists_cons_of_length_eq_add_one h
  replace h : l.length = 36 := by simpa using h
  obtain ⟨x53, l, rfl⟩ := List.exists_cons_of_length_eq_add_one h
  replace h : l.length = 35 := by simpa using h
  obtain ⟨x54, l, rfl⟩ := List.exists_cons_of_length_eq_add_one h
  replace h : l.length = 34 := by simpa using h
  obtain ⟨x55, l, rfl⟩ := List.exists_cons_of_length_eq_add_one h
  replace h : l.length = 33 := by simpa using h
  obtain ⟨x56, l, rfl⟩ := List.exists_cons_of_length_eq_add_one h
  replace h : l.length = 32 := by simpa using h
  obtain ⟨x57, l, rfl⟩ := List.exists_cons_of_length_eq_add_one h
  replace h : l.length = 31 := by simpa using h
  obtain ⟨x58, l, rfl⟩ := List.exists_cons_of_length_eq_add_one h
  replace h : l.length = 30 := by simpa using h
  obtain ⟨x59, l, rfl⟩ := List.exists_cons_of_length_eq_add_one h
  replace h : l.length = 29 := by simpa using h
  obtain ⟨x60, l, rfl⟩ := List.exists_cons_of_length_eq_add_one h
  replace h : l.length = 28 := by simpa using h
  obtain ⟨x61, l, rfl⟩ := List.exists_cons_of_length_eq_add_one h
  replace h : l.length = 27 := by simpa using h
  obtain ⟨x62, l, rfl⟩ := List.exists_cons_of_length_eq_add_one h
  replace h : l.length = 26 := by simpa using h
  obtain ⟨x63, l, rfl⟩ := List.exists_cons_of_length_eq_add_one h
  replace h : l.length = 25 := by simpa using h
  obtain ⟨x64, l, rfl⟩ := List.exists_cons_of_length_eq_add_one h
  replace h : l.length = 24 := by simpa using h
  obtain ⟨x65, l, rfl⟩ := List.exists_cons_of_length_eq_add_one h
  replace h : l.length = 23 := by simpa using h
  obtain ⟨x66, l, rfl⟩ := List.exists_cons_of_length_eq_add_one h
  replace h : l.length = 22 := by simpa using h
  obtain ⟨x67, l, rfl⟩ := List.exists_cons_of_length_eq_add_one h
  replace h : l.length = 21 := by simpa using h
  obtain ⟨x68, l, rfl⟩ := List.exists_cons_of_length_eq_add_one h
  replace h : l.length = 20 := by simpa using h
  obtain ⟨x69, l, rfl⟩ := List.exists_cons_of_length_eq_add_one h
  replace h : l.length = 19 := by simpa using h
  obtain ⟨x70, l, rfl⟩ := List.exists_cons_of_length_eq_add_one h
  replace h : l.length = 18 := by simpa using h
  obtain ⟨x71, l, rfl⟩ := List.exists_cons_of_length_eq_add_one h
  replace h : l.length = 17 := by simpa using h
  obtain ⟨x72, l, rfl⟩ := List.exists_cons_of_length_eq_add_one h
  replace h : l.length = 16 := by simpa using h
  obtain ⟨x73, l, rfl⟩ := List.exists_cons_of_length_eq_add_one h
  replace h : l.length = 15 := by simpa using h
  obtain ⟨x74, l, rfl⟩ := List.exists_cons_of_length_eq_add_one h
  replace h : l.length = 14 := by simpa using h
  obtain ⟨x75, l, rfl⟩ := List.exists_cons_of_length_eq_add_one h
  replace h : l.length = 13 := by simpa using h
  obtain ⟨x76, l, rfl⟩ := List.exists_cons_of_length_eq_add_one h
  replace h : l.length = 12 := by simpa using h
  obtain ⟨x77, l, rfl⟩ := List.exists_cons_of_length_eq_add_one h
  replace h : l.length = 11 := by simpa using h
  obtain ⟨x78, l, rfl⟩ := List.exists_cons_of_length_eq_add_one h
  replace h : l.length = 10 := by simpa using h
  obtain ⟨x79, l, rfl⟩ := List.exists_cons_of_length_eq_add_one h
  replace h : l.length = 9 := by simpa using h
  obtain ⟨x80, l, rfl⟩ := List.exists_cons_of_length_eq_add_one h
  replace h : l.length = 8 := by simpa using h
  obtain ⟨x81, l, rfl⟩ := List.exists_cons_of_length_eq_add_one h
  replace h : l.length = 7 := by simpa using h
  obtain ⟨x82, l, rfl⟩ := List.exists_cons_of_length_eq_add_one h
  replace h : l.length = 6 := by simpa using h
  obtain ⟨x83, l, rfl⟩ := List.exists_cons_of_length_eq_add_one h
  replace h : l.length = 5 := by simpa using h
  obtain ⟨x84, l, rfl⟩ := List.exists_cons_of_length_eq_add_one h
  replace h : l.length = 4 := by simpa using h
  obtain ⟨x85, l, rfl⟩ := List.exists_cons_of_length_eq_add_one h
  replace h : l.length = 3 := by simpa using h
  obtain ⟨x86, l, rfl⟩ := List.exists_cons_of_length_eq_add_one h
  replace h : l.length = 2 := by simpa using h
  obtain ⟨x87, l, rfl⟩ := List.exists_cons_of_length_eq_add_one h
  replace h : l.length = 1 := by simpa using h
  obtain ⟨x88, l, rfl⟩ := List.exists_cons_of_length_eq_add_one h
  replace h : l.length = 0 := by simpa using h
  obtain rfl := List.eq_nil_of_length_eq_zero h
  exact hm ds x0 x1 x2 x3 x4 x5 x6 x7 x8 x9 x10 x11 x12 x13 x14 x15 x16 x17 x18 x19 x20 x21 x22 x23 x24 x25 x26 x27 x28 x29 x30 x31 x32 x33 x34 x35 x36 x37 x38 x39 x40 x41 x42 x43 x44 x45 x46 x47 x48 x49 x50 x51 x52 x53 x54 x55 x56 x57 x58 x59 x60 x61 x62 x63 x64 x65 x66 x67 x68 x69 x70 x71 x72 x73 x74 x75 x76 x77 x78 x79 x80 x81 x82 x83 x84 x85 x86 x87 x88

theorem Turned.cells {base : Nat} {w w' : World} (h : Turned base w w') {B : Nat} {cs : Array Value} {T : TypeId} (hc : Cells w B cs T) : Cells w' B cs T := h.2.2.2 B _ hc (fun _ e => by cases e)
theorem HoursAt.turned {base : Nat} {w w' : World} {bm n : Nat} {F : Nat → Nat → Hrs} {dom : Nat → Nat → Prop} (h : HoursAt w bm n F dom) (ht : Turned base w w') : HoursAt w' bm n F dom := by
  obtain ⟨D, ⟨es, clock, hb, Ft, hs, hD⟩, hG⟩ := h
  refine ⟨D, ⟨es, clock, ht.2.2.2 bm _ hb (fun _ e => by cases e), Ft, hs, hD⟩, fun i k hd kl hkl => ?_⟩
  obtain ⟨Sb, h1, h2⟩ := hG i k hd kl hkl
  exact ⟨Sb, h1, fun n hn => ht.2.2.1 _ _ (h2 n hn)⟩
/-- Some slots of a frame. -/
def Slots (a : Act) (S : List (Nat × Value)) : Prop := a.tmps.size = 89 ∧ ∀ p ∈ S, a.tmps.getD p.1 undef = p.2

/-- A set as a block. -/
def setArr (f : Hrs) : Array Value := ((List.range 101).map fun n => Value.bool (f n)).toArray
theorem setArr_get (f : Hrs) (n : Nat) (h : n < 101) : (setArr f)[n]? = some (.bool (f n)) := by
  unfold setArr
  rw [List.getElem?_toArray, List.getElem?_map, List.getElem?_range h]; rfl
theorem setArr_set (f : Hrs) (m : Nat) : (setArr f).setIfInBounds m (.bool true) = setArr (fun n => f n || n == m) := by
  unfold setArr
  rw [List.setIfInBounds_toArray]
  congr 1
  apply List.ext_getElem
  · simp
  · intro i h1 h2
    simp only [List.getElem_set, List.getElem_map, List.getElem_range]
    by_cases e : m = i
    · simp [e]
    · rw [if_neg e]; simp [Ne.symm e]
theorem Cells.setC {w : World} {B : Nat} {f : Hrs} {T : TypeId} (h : Cells w B (setArr f) T) : SetC w B f := fun n hn => by rw [h.cell, setArr_get f n hn]
def noHr : Hrs := fun _ => false
end Go.Proofs.Ytfclemnkcpadpaa
