/- cipher: the examples -/
import Derived.Test.YtmplgcefhpobgaaDd
namespace Go.Proofs.Ytmplgcefhpobgaa
set_option linter.unusedVariables false
set_option linter.unusedSimpArgs false
set_option linter.unnecessarySimpa false
open Go.RowKit Go.Flow

theorem OwnL.lits (T : TypeId) (size : Nat) (w : World) (cs : Array Value) (n : Nat) (hm : n ≤ maxLen) (hs : cs.size = n * size) (base : Nat) (hb : base ≤ w.heap.size) : OwnL T size base (w.alloc (.cells cs T)) (some ⟨w.heap.size, 0, none⟩) n n cs.toList :=
  OwnL.lit cs hb hm hs

def exKs : List K3 := [(2, 3, 1), (5, 0, 0)]
def exDs : List Int := [0, 0, 1]

set_option maxHeartbeats 1000000 in
theorem book_any (w : World) : Calls Try.prog 47 #[] w fun e w' => RetBook w.heap.size 13 10 exKs exDs e w' ∧ Below w.heap.size w w' := by
  go_enter Try.func47, Try.ntmps47
  go_wp2
  obtain ⟨w1, hw1⟩ : ∃ x : World, x = w.alloc (.cells #[.int .i64 13, .int .i64 10, .slice (some ⟨w.heap.size + 1, 0, none⟩) 2 2, .slice (some ⟨w.heap.size + 1 + 1, 0, none⟩) 3 3] 32) := ⟨_, rfl⟩
  have hc := Cells.new w #[.int .i64 13, .int .i64 10, .slice (some ⟨w.heap.size + 1, 0, none⟩) 2 2, .slice (some ⟨w.heap.size + 1 + 1, 0, none⟩) 3 3] 32
  have hz : w1.heap.size = w.heap.size + 1 := by rw [hw1]; simp
  have hb : Below w.heap.size w w1 := by rw [hw1]; (repeat (first | exact Below.refl _ _ | refine Below.alloc ?_ (by first | omega | (simp; done) | (simp; omega)) _ | refine Below.drew ?_ | refine Below.setCell ?_ (by first | omega | (simp; done) | (simp; omega)) _ | refine Below.trans ?_ (Below.mono (by assumption) (by first | omega | (simp; done) | (simp; omega)))))
  rw [← hw1] at hc ⊢
  clear hw1
  have o1 := OwnL.lit (E := 91) (size := 3) (base := w.heap.size) (n := 2) (w := w1) #[.int .i64 2, .int .i64 3, .int .i64 1, .int .i64 5, .int .i64 0, .int .i64 0] (by omega) (by decide) rfl
  have b1 : Below w1.heap.size w1 (w1.alloc (.cells #[.int .i64 2, .int .i64 3, .int .i64 1, .int .i64 5, .int .i64 0, .int .i64 0] 91)) := (Below.refl _ _).alloc (Nat.le_refl _) _
  obtain ⟨w2, hw2⟩ : ∃ x : World, x = w1.alloc (.cells #[.int .i64 2, .int .i64 3, .int .i64 1, .int .i64 5, .int .i64 0, .int .i64 0] 91) := ⟨_, rfl⟩
  have hz2 : w2.heap.size = w.heap.size + 1 + 1 := by rw [hw2]; simp [hz]
  rw [hz, ← hw2] at o1
  rw [← hw2] at b1 ⊢
  clear hw2
  have o2 := OwnL.lit (E := 3) (size := 1) (base := w.heap.size) (n := 3) (w := w2) #[.int .i64 0, .int .i64 0, .int .i64 1] (by omega) (by decide) rfl
  have b2 : Below w2.heap.size w2 (w2.alloc (.cells #[.int .i64 0, .int .i64 0, .int .i64 1] 3)) := (Below.refl _ _).alloc (Nat.le_refl _) _
  rw [hz2] at o2
  have b3 : Below w1.heap.size w1 (w2.alloc (.cells #[.int .i64 0, .int .i64 0, .int .i64 1] 3)) := b1.trans (b2.mono (by omega))
  refine bodyPost_ret (results_cell1 rfl rfl (load_book (hc.below b3))) rfl ?_
  exact ⟨⟨_, _, _, _, rfl, o1.kept b2, o2⟩, hb.trans (b3.mono hb.size)⟩
set_option maxHeartbeats 1000000 in
theorem early_any (w : World) : Calls Try.prog 48 #[] w fun e w' => (∃ a, e = .returned (.slice a 1 1) ∧ Recs2At w' a [(0, 1)]) ∧ Below w.heap.size w w' := by
  go_enter Try.func48, Try.ntmps48
  go_wp2
  go_ret
  refine ⟨⟨_, rfl, ?_⟩, by (repeat (first | exact Below.refl _ _ | refine Below.alloc ?_ (by first | omega | (simp; done) | (simp; omega)) _ | refine Below.drew ?_ | refine Below.setCell ?_ (by first | omega | (simp; done) | (simp; omega)) _ | refine Below.trans ?_ (Below.mono (by assumption) (by first | omega | (simp; done) | (simp; omega)))))⟩
  intro k hk
  have h0 : k = 0 := by simp at hk; omega
  subst h0
  exact ⟨w.heap.size, 0, rfl, by simp, cell_new w _ _ 0 _ rfl, cell_new w _ _ 1 _ rfl⟩

theorem ints_lit (w : World) (cs : Array Value) (T : TypeId) (l : List Int) (h : cs.toList = l.map (Value.int .i64)) : IntsAt (w.alloc (.cells cs T)) (some ⟨w.heap.size, 0, none⟩) l := fun k hk => by
  refine ⟨w.heap.size, 0, rfl, by simp, ?_⟩
  rw [Nat.zero_add]
  refine cell_new w cs T k _ ?_
  rw [← Array.getElem?_toList, h]
  simp [hk]
theorem recs2_lit (w : World) (cs : Array Value) (T : TypeId) (l : List (Int × Int)) (h : cs.toList = l.flatMap fun x => [.int .i64 x.1, .int .i64 x.2]) : Recs2At (w.alloc (.cells cs T)) (some ⟨w.heap.size, 0, none⟩) l := fun k hk => by
  have key : ∀ (l : List (Int × Int)) (k : Nat) (h : k < l.length), (l.flatMap fun x => [Value.int .i64 x.1, .int .i64 x.2])[k * 2]? = some (.int .i64 l[k].1) ∧ (l.flatMap fun x => [Value.int .i64 x.1, .int .i64 x.2])[k * 2 + 1]? = some (.int .i64 l[k].2) := by
    intro l
    induction l with
    | nil => intro k h; simp at h
    | cons x l ih =>
      intro k h
      cases k with
      | zero => simp
      | succ k =>
        obtain ⟨a, b⟩ := ih k (by simpa using h)
        rw [show (k + 1) * 2 = k * 2 + 2 by omega]
        simp only [List.flatMap_cons, List.cons_append, List.nil_append, List.getElem?_cons_succ]
        exact ⟨a, b⟩
  obtain ⟨k0, k1⟩ := key l k hk
  rw [← h, Array.getElem?_toList] at k0 k1
  refine ⟨w.heap.size, 0, rfl, by simp, ?_, ?_⟩
  · rw [Nat.zero_add]; exact cell_new w cs T _ _ k0
  · rw [Nat.zero_add]; exact cell_new w cs T _ _ k1
theorem recs2_lit' (w : World) (cs : Array Value) (T : TypeId) (l : List (Int × Int)) (B : Nat) (hB : B = w.heap.size) (h : cs.toList = l.flatMap fun x => [.int .i64 x.1, .int .i64 x.2]) : Recs2At (w.alloc (.cells cs T)) (some ⟨B, 0, none⟩) l := by subst hB; exact recs2_lit w cs T l h
theorem ints_lit' (w : World) (cs : Array Value) (T : TypeId) (l : List Int) (B : Nat) (hB : B = w.heap.size) (h : cs.toList = l.map (Value.int .i64)) : IntsAt (w.alloc (.cells cs T)) (some ⟨B, 0, none⟩) l := by subst hB; exact ints_lit w cs T l h
theorem RetBook.out {B : Nat} {s wo : Int} {ks : List K3} {ds : List Int} {e : Ending} {w' : World} (h : RetBook B s wo ks ds e w') : ∃ ak ck ad cd, e = .returned (.agg #[.int .i64 s, .int .i64 wo, .slice ak ks.length ck, .slice ad ds.length cd]) ∧ Recs3At w' ak ks ∧ IntsAt w' ad ds :=
  let ⟨ak, ck, ad, cd, he, o1, o2⟩ := h
  ⟨ak, ck, ad, cd, he, o1.recs3, o2.ints.1⟩

abbrev EXB (ak : Option Addr) (ck : Nat) (ad : Option Addr) (cd : Nat) : Value := .agg #[.int .i64 13, .int .i64 10, .slice ak 2 ck, .slice ad 3 cd]
theorem exCode (ak : Option Addr) (ck : Nat) (ad : Option Addr) (cd : Nat) (ap : Option Addr) (w : World) (hk : Recs3At w ak exKs) (hd : IntsAt w ad exDs) (hp : IntsAt w ap [4, 11, 4]) :
    Calls Try.prog 20 #[EXB ak ck ad cd, .int .i64 0, .slice ap 3 3] w fun e w' => (∃ a c, e = .returned (.tuple #[.slice a 5 c, .int .i64 0]) ∧ IntsAt w' a [0, 11, 0, 0, 9]) ∧ Below w.heap.size w w' := by
  refine (code_full 13 10 ak exKs ck ad exDs cd 0 ap [4, 11, 4] 3 w hk hd (by decide) (by decide) hp (by decide)).mono ?_
  rintro e w' ⟨⟨a, c, he, ho⟩, hb⟩
  have e1 : codeOut 13 10 exKs exDs 0 [4, 11, 4] = [0, 11, 0, 0, 9] := by kernel_rfl
  have e2 : codeErr 13 10 exKs exDs 0 [4, 11, 4] = 0 := by kernel_rfl
  rw [e1, e2] at he
  rw [e1] at ho
  exact ⟨⟨a, c, he, ho.ints.1⟩, hb⟩
theorem exDecode (ak : Option Addr) (ck : Nat) (ad : Option Addr) (cd : Nat) (ap : Option Addr) (w : World) (hk : Recs3At w ak exKs) (hd : IntsAt w ad exDs) (hp : IntsAt w ap [0, 11, 0, 0, 9]) :
    Calls Try.prog 27 #[EXB ak ck ad cd, .int .i64 0, .slice ap 5 5] w fun e w' => (∃ a c a2 c2, e = .returned (.tuple #[.slice a 3 c, .slice a2 2 c2, .int .i64 0]) ∧ IntsAt w' a [4, 11, 4] ∧ IntsAt w' a2 [4, 4]) ∧ Below w.heap.size w w' := by
  refine (decode_full 13 10 ak exKs ck ad exDs cd 0 ap [0, 11, 0, 0, 9] 5 w hk hd (by decide) (by decide) hp (by decide) (by decide) (by decide)).mono ?_
  rintro e w' ⟨⟨a, c, a2, c2, he, ho, ho2⟩, hb⟩
  have e1 : decOut 13 10 exKs exDs 0 [0, 11, 0, 0, 9] = [4, 11, 4] := by kernel_rfl
  have e2 : decodeErr 13 10 exKs exDs 0 [0, 11, 0, 0, 9] = 0 := by kernel_rfl
  have e3 : kept (fun n => decide (10 ≤ n)) [4, 11, 4] = [4, 4] := by kernel_rfl
  rw [e1, e2, e3] at he
  rw [e1] at ho ho2
  rw [e3] at ho2
  exact ⟨⟨a, c, a2, c2, he, ho.ints.1, ho2.ints.1⟩, hb⟩
theorem exExposed (ak : Option Addr) (ck : Nat) (ad : Option Addr) (cd : Nat) (ap : Option Addr) (w : World) (hk : Recs3At w ak exKs) (hd : IntsAt w ad exDs) (hp : Recs2At w ap [(0, 1)]) :
    Calls Try.prog 29 #[EXB ak ck ad cd, .slice ap 1 1] w fun e w' => (∃ a c, e = .returned (.tuple #[.slice a 3 c, .int .i64 0]) ∧ IntsAt w' a [1, 1, -1]) ∧ Below w.heap.size w w' := by
  refine (exposed_full 13 10 ak exKs ck ad exDs cd ap [(0, 1)] 1 w hk hd (by decide) (by decide) hp (by decide)).mono ?_
  rintro e w' ⟨⟨a, c, he, ho⟩, hb⟩
  have e1 : expOut 13 10 exKs exDs [(0, 1)] = [1, 1, -1] := by kernel_rfl
  have e2 : lossErr 13 10 exKs exDs [(0, 1)] = 0 := by kernel_rfl
  rw [e1, e2] at he
  rw [e1] at ho
  exact ⟨⟨a, c, he, ho.ints.1⟩, hb⟩
theorem exPlan (ak : Option Addr) (ck : Nat) (ad : Option Addr) (cd : Nat) (ap : Option Addr) (w : World) (hk : Recs3At w ak exKs) (hd : IntsAt w ad exDs) (hp : Recs2At w ap [(0, 1)]) :
    Calls Try.prog 35 #[EXB ak ck ad cd, .slice ap 1 1, .int .i64 2] w fun e w' => (∃ a c, e = .returned (.tuple #[.slice a 3 c, .int .i64 1, .int .i64 0]) ∧ IntsAt w' a [0, 1, 1]) ∧ Below w.heap.size w w' := by
  refine (plan_full 13 10 ak exKs ck ad exDs cd ap [(0, 1)] 1 2 w hk hd (by decide) (by decide) hp (by decide)).mono ?_
  rintro e w' ⟨⟨a, c, he, ho⟩, hb⟩
  have e1 : planDays 13 10 exKs exDs [(0, 1)] 2 = [0, 1, 1] := by kernel_rfl
  have e2 : planErr 13 10 exKs exDs [(0, 1)] 2 = 0 := by kernel_rfl
  have e3 : planCh 13 10 exKs exDs [(0, 1)] 2 = 1 := by kernel_rfl
  rw [e1, e2, e3] at he
  rw [e1] at ho
  exact ⟨⟨a, c, he, ho.ints.1⟩, hb⟩
theorem exFits (ak : Option Addr) (ck : Nat) (ad : Option Addr) (cd : Nat) (ac ag : Option Addr) (w : World) (hk : Recs3At w ak exKs) (hd : IntsAt w ad exDs) (hc : IntsAt w ac [11, 0, 0]) (hg : Recs2At w ag [(0, 4), (2, 4)]) :
    Calls Try.prog 40 #[EXB ak ck ad cd, .slice ac 3 3, .slice ag 2 2] w fun e w' => e = .returned (.tuple #[.int .i64 12, .int .i64 0]) ∧ Below w.heap.size w w' := by
  refine (fits_full 13 10 ak exKs ck ad exDs cd ac [11, 0, 0] 3 ag [(0, 4), (2, 4)] 2 w hk hd (by decide) (by decide) hc (by decide) hg (by decide)).mono ?_
  rintro e w' ⟨he, hb⟩
  have e1 : fitsN 13 10 exKs exDs [11, 0, 0] [(0, 4), (2, 4)] = 12 := by kernel_rfl
  have e2 : fitsErr 13 10 exKs exDs [11, 0, 0] [(0, 4), (2, 4)] = 0 := by kernel_rfl
  rw [e1, e2] at he
  exact ⟨he, hb⟩
theorem same_eq (a : Option Addr) (xs : List Int) (c : Nat) (b : Option Addr) (d : Nat) (w : World) (hx : IntsAt w a xs) (hy : IntsAt w b xs) (lx : xs.length ≤ 1000000) :
    Calls Try.prog 25 #[.slice a xs.length c, .slice b xs.length d] w fun e w' => e = .returned (.bool true) ∧ Below w.heap.size w w' := by
  have := same_any a xs c b xs d w hx hy lx lx
  rwa [show sameB xs xs = true from decide_eq_true rfl] at this
end Go.Proofs.Ytmplgcefhpobgaa
