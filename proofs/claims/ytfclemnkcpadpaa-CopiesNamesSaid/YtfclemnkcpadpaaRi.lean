/- lists of lists that a call has made; copies: Truth -/
import Derived.Test.YtfclemnkcpadpaaRh
namespace Go.Proofs.Ytfclemnkcpadpaa
set_option linter.unusedVariables false
set_option linter.unusedSimpArgs false
set_option linter.unnecessarySimpa false
open Go.RowKit Go.Flow

theorem zip_snoc {α β : Type} : ∀ (l : List α) (ps : List β) (x : α) (p : β), l[ps.length]? = some x → l.zip (ps ++ [p]) = l.zip ps ++ [(x, p)]
  | [], ps, x, p, h => by simp at h
  | y :: l, [], x, p, h => by simp at h; simp [h]
  | y :: l, q :: ps, x, p, h => by
    have := zip_snoc l ps x p (by simpa using h)
    simp [this]
/-- An own list of parts that own lists themselves: the first n ones of l. -/
def NestOwn {α : Type} (E : TypeId) (size : Nat) (val : α → Option Addr × Nat → List Value) (Sub : World → Option Addr × Nat → α → Prop) (B : Nat) (w : World) (a : Option Addr) (c : Nat) (l : List α) (n : Nat) : Prop :=
  ∃ ps : List (Option Addr × Nat), ps.length = n ∧ OwnL E size B w a c n ((l.zip ps).flatMap fun x => val x.1 x.2) ∧ ∀ (q : Nat) x p, l[q]? = some x → ps[q]? = some p → Sub w p x
section
variable {α : Type} {E : TypeId} {size : Nat} {val : α → Option Addr × Nat → List Value} {Sub : World → Option Addr × Nat → α → Prop} {B : Nat} {w w' : World} {a : Option Addr} {c : Nat} {l : List α} {n : Nat}
theorem NestOwn.nil (B : Nat) (w : World) (l : List α) : NestOwn E size val Sub B w none 0 l 0 := ⟨[], rfl, by rw [List.zip_nil_right]; exact OwnL.nil _ _ _ _, fun q x p _ h => by simp at h⟩
theorem NestOwn.kept (h : NestOwn E size val Sub B w a c l n) (hb : Below w.heap.size w w') (hs : ∀ p x, Sub w p x → Sub w' p x) : NestOwn E size val Sub B w' a c l n :=
  let ⟨ps, h1, h2, h3⟩ := h
  ⟨ps, h1, h2.kept hb, fun q x p hx hp => hs p x (h3 q x p hx hp)⟩
theorem NestOwn.grown (h : NestOwn E size val Sub B w a c l n) {row : Option Nat} (hg : w.grownBy w' row) (hne : ∀ g, row = some g → (Value.slice a n c).ownBlock ≠ some g) (hs : ∀ p x, Sub w p x → Sub w' p x) : NestOwn E size val Sub B w' a c l n :=
  let ⟨ps, h1, h2, h3⟩ := h
  ⟨ps, h1, h2.grown hg hne, fun q x p hx hp => hs p x (h3 q x p hx hp)⟩
theorem NestOwn.base_le (h : NestOwn E size val Sub B w a c l n) {B' : Nat} (hb : B' ≤ B) : NestOwn E size val Sub B' w a c l n :=
  let ⟨ps, h1, h2, h3⟩ := h
  ⟨ps, h1, h2.base_le hb, h3⟩
theorem NestOwn.sub {Sub' : World → Option Addr × Nat → α → Prop} (h : NestOwn E size val Sub B w a c l n) (hs : ∀ p x, Sub w p x → Sub' w p x) : NestOwn E size val Sub' B w a c l n :=
  let ⟨ps, h1, h2, h3⟩ := h
  ⟨ps, h1, h2, fun q x p hx hp => hs p x (h3 q x p hx hp)⟩
end
theorem ownL_len {α : Type} {E : TypeId} {size : Nat} {val : α → Option Addr × Nat → List Value} {l : List α} {ps : List (Option Addr × Nat)} (hv : ∀ x p, (val x p).length = size) (hl : ps.length ≤ l.length) : ((l.zip ps).flatMap fun x => val x.1 x.2).length = ps.length * size := by
  induction l generalizing ps with
  | nil => cases ps with
    | nil => simp
    | cons _ _ => simp at hl
  | cons y l ih => cases ps with
    | nil => simp
    | cons p ps =>
      have := @ih ps (by simpa using hl)
      simp only [List.zip_cons_cons, List.flatMap_cons, List.length_append, List.length_cons, hv]
      rw [this, Nat.add_mul]; omega
theorem flatMap_get {β : Type} (size : Nat) (f : β → List Value) (hf : ∀ x, (f x).length = size) : ∀ (l : List β) (k j : Nat) (x : β), l[k]? = some x → j < size → (l.flatMap f)[k * size + j]? = (f x)[j]?
  | [], k, j, x, h, _ => by simp at h
  | y :: l, 0, j, x, h, hj => by
    simp at h
    subst h
    rw [List.flatMap_cons, Nat.zero_mul, Nat.zero_add, List.getElem?_append_left (by rw [hf]; exact hj)]
  | y :: l, k + 1, j, x, h, hj => by
    rw [List.flatMap_cons, List.getElem?_append_right (by rw [hf, Nat.add_mul]; omega), hf, show (k + 1) * size + j - size = k * size + j by rw [Nat.add_mul]; omega]
    exact flatMap_get size f hf l k j x (by simpa using h) hj
/-- The cells of a part, in a block of their own. -/
theorem NestOwn.at {α : Type} {E : TypeId} {size : Nat} {val : α → Option Addr × Nat → List Value} {Sub : World → Option Addr × Nat → α → Prop} {B : Nat} {w : World} {a : Option Addr} {c : Nat} {l : List α} (h : NestOwn E size val Sub B w a c l l.length) (hv : ∀ x p, (val x p).length = size) (hpos : 0 < size) (k : Nat) (hk : k < l.length) :
    ∃ g p, a = some ⟨g, 0, none⟩ ∧ g < w.heap.size ∧ Sub w p l[k] ∧ ∀ j v, j < size → (val l[k] p)[j]? = some v → w.cell? ⟨g, k * size + j, none⟩ = some v := by
  obtain ⟨ps, hl, ho, hs⟩ := h
  obtain ⟨p, hp⟩ : ∃ p, ps[k]? = some p := ⟨ps[k]'(by omega), by simp⟩
  have hx : l[k]? = some l[k] := by simp
  have hz : (l.zip ps)[k]? = some (l[k], p) := by rw [List.getElem?_zip_eq_some]; exact ⟨hx, hp⟩
  rcases ho.form with ⟨_, _, h0, _⟩ | ⟨g, rfl, _, hlt, _, _, _, hc⟩
  · omega
  · refine ⟨g, p, rfl, hlt, hs k _ _ hx hp, fun j v hj hjv => hc _ _ ?_⟩
    rw [flatMap_get size (fun x : α × (Option Addr × Nat) => val x.1 x.2) (fun x => hv x.1 x.2) _ k j _ hz hj]
    exact hjv
theorem NestOwn.isnil {α : Type} {E : TypeId} {size : Nat} {val : α → Option Addr × Nat → List Value} {Sub : World → Option Addr × Nat → α → Prop} {B : Nat} {w : World} {c : Nat} {l : List α} {n : Nat} (h : NestOwn E size val Sub B w none c l n) : n = 0 ∧ c = 0 :=
  let ⟨_, _, h2, _⟩ := h
  h2.isnil
theorem NestOwn.snoc {α : Type} {E : TypeId} {size : Nat} {val : α → Option Addr × Nat → List Value} {Sub : World → Option Addr × Nat → α → Prop} {B : Nat} {w : World} {a : Option Addr} {c n : Nat} {l : List α} {ps : List (Option Addr × Nat)} (hl : ps.length = n) {x : α} (hx : l[n]? = some x) (p : Option Addr × Nat)
    (ho : OwnL E size B w a c (n + 1) (((l.zip ps).flatMap fun x => val x.1 x.2) ++ val x p)) (hs : ∀ (q : Nat) x p, l[q]? = some x → ps[q]? = some p → Sub w p x) (hp : Sub w p x) : NestOwn E size val Sub B w a c l (n + 1) := by
  refine ⟨ps ++ [p], by simp [hl], ?_, fun q y r hy hr => ?_⟩
  · rw [zip_snoc l ps x p (by rw [hl]; exact hx), List.flatMap_append]
    simpa using ho
  · rcases Nat.lt_or_ge q ps.length with hq | hq
    · rw [List.getElem?_append_left hq] at hr
      exact hs q y r hy hr
    · have hq2 : q = ps.length := by
        have := (List.getElem?_eq_some_iff.1 hr).1
        simp at this; omega
      subst hq2
      rw [List.getElem?_append_right (Nat.le_refl _)] at hr
      simp at hr
      rw [hl, hx] at hy
      cases hy
      subst hr
      exact hp

/-! ### lists of ints -/
def sv {α : Type} (x : List α) (p : Option Addr × Nat) : List Value := [.slice p.1 x.length p.2]
def IntsOwn (B : Nat) (w : World) (p : Option Addr × Nat) (x : List Int) : Prop := OwnL 3 1 B w p.1 p.2 x.length (x.map (Value.int .i64))
def ListsOwn (B : Nat) (w : World) (p : Option Addr × Nat) (l : List (List Int)) (n : Nat) : Prop := NestOwn 22 1 sv (IntsOwn B) B w p.1 p.2 l n
def TruthOwn (B : Nat) (w : World) (p : Option Addr × Nat) (t : List (List (List Int))) (n : Nat) : Prop := NestOwn 103 1 sv (fun w p l => ListsOwn B w p l l.length) B w p.1 p.2 t n
theorem IntsOwn.kept {B : Nat} {w w' : World} {p : Option Addr × Nat} {x : List Int} (h : IntsOwn B w p x) (hb : Below w.heap.size w w') : IntsOwn B w' p x := OwnL.kept h hb
theorem ListsOwn.kept {B : Nat} {w w' : World} {p : Option Addr × Nat} {l : List (List Int)} {n : Nat} (h : ListsOwn B w p l n) (hb : Below w.heap.size w w') : ListsOwn B w' p l n := NestOwn.kept h hb fun _ _ h => h.kept hb
theorem ListsOwn.base_le {B B' : Nat} {w : World} {p : Option Addr × Nat} {l : List (List Int)} {n : Nat} (h : ListsOwn B w p l n) (hb : B' ≤ B) : ListsOwn B' w p l n := (NestOwn.base_le h hb).sub fun _ _ h => OwnL.base_le h hb
theorem TruthOwn.kept {B : Nat} {w w' : World} {p : Option Addr × Nat} {l : List (List (List Int))} {n : Nat} (h : TruthOwn B w p l n) (hb : Below w.heap.size w w') : TruthOwn B w' p l n := NestOwn.kept h hb fun _ _ h => h.kept hb
theorem ListsOwn.at {B : Nat} {w : World} {p : Option Addr × Nat} {l : List (List Int)} (h : ListsOwn B w p l l.length) : ListsAt w p.1 l := fun k hk => by
  obtain ⟨g, q, ha, hlt, hs, hc⟩ := NestOwn.at h (fun _ _ => rfl) (by omega) k hk
  refine ⟨g, 0, q.1, q.2, ha, hlt, ?_, (OwnL.ints hs).1, fun e => (OwnL.isnil (by have := hs; unfold IntsOwn at this; rwa [e] at this)).2⟩
  have := hc 0 _ (by omega) rfl
  rw [Nat.zero_add]; simpa using this
theorem TruthOwn.at {B : Nat} {w : World} {p : Option Addr × Nat} {t : List (List (List Int))} (h : TruthOwn B w p t t.length) : TruthAt w p.1 t := fun k hk => by
  obtain ⟨g, q, ha, hlt, hs, hc⟩ := NestOwn.at h (fun _ _ => rfl) (by omega) k hk
  refine ⟨g, 0, q.1, q.2, ha, hlt, ?_, hs.at, fun e => (NestOwn.isnil (by have := hs; unfold ListsOwn at this; rwa [e] at this)).2⟩
  have := hc 0 _ (by omega) rfl
  rw [Nat.zero_add]; simpa using this
theorem info_lists : (Try.prog.info? 22).map (fun i => (i.zero, i.size, i.bytes)) = some (some (.slice none 0 0), 1, 24) := by kernel_rfl
theorem el_lists : Elem Try.prog 103 22 (.slice none 0 0) 1 24 := ⟨Try.underlying103, info_parts info_lists, rfl, by decide⟩
theorem info_truths : (Try.prog.info? 103).map (fun i => (i.zero, i.size, i.bytes)) = some (some (.slice none 0 0), 1, 24) := by kernel_rfl
theorem el_truths : Elem Try.prog 26 103 (.slice none 0 0) 1 24 := ⟨Try.underlying26, info_parts info_truths, rfl, by decide⟩

set_option maxRecDepth 100000 in
set_option maxHeartbeats 4000000 in
theorem truthConv_any (at_ : Option Addr) (t : List (List (List Int))) (ct : Nat) (w : World) (ht : TruthAt w at_ t) (lt : t.length ≤ 1000) (lt1 : ∀ l ∈ t, l.length ≤ 1000) (lt2 : ∀ l ∈ t, ∀ x ∈ l, x.length ≤ 1000) :
    Calls Try.prog 23 #[.slice at_ t.length ct] w fun e w' => (∃ a c, e = .returned (.slice a t.length c) ∧ TruthOwn w.heap.size w' (a, c) t t.length) ∧ Below w.heap.size w w' := by
  go_enter Try.func23, Try.ntmps23
  go_wp2
  go_loopw [3, 4] (fun v i wr => ∃ (k : Nat) (a' : Option Addr) (c' : Nat), k ≤ t.length ∧ i = .int .i64 k ∧ v = .slice a' k c' ∧ TruthOwn w.heap.size wr (a', c') t k ∧ Below w.heap.size w wr) (fun _ i _ => t.length - (intOf i).toNat)
  case atStart => exact ⟨0, none, 0, Nat.zero_le _, rfl, rfl, NestOwn.nil _ _ _, Below.refl _ _⟩
  case round =>
    obtain ⟨k, a', c', hk, rfl, rfl, hT, hb⟩ := hrel
    by_cases hkl : k < t.length
    · obtain ⟨b, off, a2, c2, rfl, hbl, c0, hL, _⟩ := (ht.below hb) k hkl
      have hx : Hid (t[k]? = some t[k]) := Lib.hid (by simp)
      have lk := lt1 t[k] (List.getElem_mem hkl)
      have lk2 := Lib.hid (lt2 t[k] (List.getElem_mem hkl))
      obtain ⟨l, hle⟩ : ∃ l, t[k] = l := ⟨_, rfl⟩
      rw [hle] at c0 hL hx lk lk2
      clear hle
      have hkI : (k : Int) < (t.length : Int) := by omega
      have hbz := hb.size
      go_wp2
      obtain ⟨W1, hW1⟩ : ∃ z : World, z = wr := ⟨_, rfl⟩
      subst hW1
      go_loopw [5, 6] (fun v i wq => ∃ (j : Nat) (a6 : Option Addr) (c6 : Nat), j ≤ l.length ∧ i = .int .i64 j ∧ v = .slice a6 j c6 ∧ ListsOwn W1.heap.size wq (a6, c6) l j ∧ Below W1.heap.size W1 wq) (fun _ i _ => l.length - (intOf i).toNat)
      case atStart => exact ⟨0, none, 0, Nat.zero_le _, rfl, rfl, NestOwn.nil _ _ _, Below.refl _ _⟩
      case round =>
        obtain ⟨j, a6, c6, hj, rfl, rfl, hJ, hb2⟩ := hrel
        have hb2z := hb2.size
        have d0 := below_cell hb2 c0
        have ld0 := cell_ltK d0
        by_cases hjl : j < l.length
        · obtain ⟨b3, off3, a3, c3, rfl, hbl3, e0, eI, en⟩ := (hL.below hb2) j hjl
          have hy : Hid (l[j]? = some l[j]) := Lib.hid (by simp)
          have lj := lk2.out l[j] (List.getElem_mem hjl)
          obtain ⟨x, hxe⟩ : ∃ x, l[j] = x := ⟨_, rfl⟩
          rw [hxe] at e0 eI hy lj
          clear hxe
          have hjI : (j : Int) < (l.length : Int) := by omega
          have hli := fun W (b : Below wr.heap.size wr W) => lawlist_any a3 x c3 W (eI.below b) (by omega) en
          go_wp2_with fail
          go_at_call 62
          with_reducible refine (hli _ (Below.refl _ _)).mono ?_
          rintro e w1 ⟨⟨a4, c4, rfl, ho⟩, hb1⟩
          have hJ1 := hJ.kept hb1
          have hz1 := hb1.size
          obtain ⟨ps, hps, hown, hsub⟩ := hJ1
          have ho' : IntsOwn W1.heap.size w1 (a4, c4) x := OwnL.base_le ho (by omega)
          go_wp2_with (at_builtin; refine wpList_app_g el_lists rfl _ _ rfl W1.heap.size a6 j c6 _ rfl (hown.alloc _) (some ⟨w1.heap.size, 0, none⟩) 1 1 [.slice a4 x.length c4] rfl (fun h => by cases h) rfl (Cells.src (Cells.new _ _ _)) (fun u hu => by simp at hu; subst hu; rfl) (by unfold maxLen; omega) (by omega) (by simp; omega) ?_; intro a7 c7 w7 hown7 hb7 hg7)
          have hgA : ∀ {p : Option Addr × Nat} {y : List Int}, IntsOwn W1.heap.size w1 p y → IntsOwn W1.heap.size w7 p y := fun {p y} h => OwnL.grown (OwnL.alloc (show OwnL 3 1 W1.heap.size w1 p.1 p.2 y.length (y.map (Value.int .i64)) from h) _) hg7 (OwnL.apart (by decide) h hown)
          go_roundw
          case rel => exact ⟨j + 1, a7, c7, by omega, by go_num, rfl, NestOwn.snoc hps hy.out (a4, c4) hown7 (fun q y p h1 h2 => hgA (hsub q y p h1 h2)) (hgA ho'), hb2.trans (((hb1.mono hb2z).trans (((Below.refl _ _).alloc (Nat.le_refl _) _).mono (by omega))).trans hb7)⟩
          case measure => simp [intOf]; omega
        · obtain rfl : j = l.length := by omega
          have hT2 := hT.kept hb2
          obtain ⟨ps, hps, hown, hsub⟩ := hT2
          have hJ' : ListsOwn w.heap.size wr (a6, c6) l l.length := hJ.base_le hbz
          have wA : ∀ o, Below wr.heap.size wr (wr.alloc o) := fun o => (Below.refl _ _).alloc (Nat.le_refl _) _
          go_wp2_with (at_builtin; refine wpList_app_g el_truths rfl _ _ rfl w.heap.size a' k c' _ rfl (hown.alloc _) (some ⟨wr.heap.size, 0, none⟩) 1 1 [.slice a6 l.length c6] rfl (fun h => by cases h) rfl (Cells.src (Cells.new _ _ _)) (fun u hu => by simp at hu; subst hu; rfl) (by unfold maxLen; omega) (by omega) (by simp; omega) ?_; intro a7 c7 w7 hown7 hb7 hg7)
          have hgI : ∀ o {p : Option Addr × Nat} {y : List Int}, (wr.alloc o).grownBy w7 (Value.slice a' k c').ownBlock → IntsOwn w.heap.size wr p y → IntsOwn w.heap.size w7 p y := fun o {p y} hg7 h => OwnL.grown (OwnL.alloc h o) hg7 (OwnL.apart (by decide) h hown)
          have hgL : ∀ {p : Option Addr × Nat} {y : List (List Int)}, ListsOwn w.heap.size wr p y y.length → ListsOwn w.heap.size w7 p y y.length := fun {p y} h => by
            obtain ⟨qs, q1, q2, q3⟩ := h
            exact ⟨qs, q1, OwnL.grown (OwnL.alloc q2 _) hg7 (OwnL.apart (by decide) q2 hown), fun q x p hx hp => hgI _ hg7 (q3 q x p hx hp)⟩
          go_roundw
          case rel => exact ⟨k + 1, a7, c7, by omega, by go_num, rfl, NestOwn.snoc hps hx.out (a6, c6) hown7 (fun q y p h1 h2 => hgL (hsub q y p h1 h2)) (hgL hJ'), ((hb.trans (hb2.mono hbz)).trans ((wA _).mono (by omega))).trans hb7⟩
          case measure => simp [intOf]; omega
    · obtain rfl : k = t.length := by omega
      go_wp2
      go_ret
      exact ⟨⟨a', c', rfl, hT⟩, hb⟩
end Go.Proofs.Ytfclemnkcpadpaa
