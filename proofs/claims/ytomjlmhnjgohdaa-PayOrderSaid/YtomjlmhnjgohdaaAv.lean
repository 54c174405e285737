/- pay: a map of groups that remembers -/
import Derived.Test.YtomjlmhnjgohdaaAe
import Derived.Test.YtomjlmhnjgohdaaAu
namespace Go.Proofs.Ytomjlmhnjgohdaa
set_option linter.unusedVariables false
set_option linter.unusedSimpArgs false
set_option linter.unnecessarySimpa false
open Go.RowKit Go.Flow
open Go.Maps (Keyed)

/-- A slice of sets. -/
def SetsAt (w : World) (a : Option Addr) (xs : List Nat) : Prop :=
  ∀ k, k < xs.length → ∃ b off, a = some ⟨b, off, none⟩ ∧ b < w.heap.size ∧ w.cell? ⟨b, off + k, none⟩ = some (.int .u64 (xs.getD k 0 : Nat))
theorem SetsAt.below {w w' : World} {a : Option Addr} {xs : List Nat} (h : SetsAt w a xs) (hb : Below w.heap.size w w') : SetsAt w' a xs := fun k hk =>
  let ⟨b, off, ha, hlt, hc⟩ := h k hk
  ⟨b, off, ha, Nat.lt_of_lt_of_le hlt hb.size, (hb.cell (p := ⟨b, off + k, none⟩) hlt).trans hc⟩
theorem SetsAt.keep {bm : Nat} {w w' : World} {a : Option Addr} {xs : List Nat} (h : SetsAt w a xs) (k : Keep bm w w') : SetsAt w' a xs := fun i hi =>
  let ⟨b, off, ha, hlt, hc⟩ := h i hi
  ⟨b, off, ha, Nat.lt_of_lt_of_le hlt k.size, k.cell hc⟩
theorem SetsAt.nil (w : World) (a : Option Addr) : SetsAt w a [] := fun k hk => by simp at hk

theorem setKeyed : Keyed Try.prog 109 := Go.Maps.int_keyed Try.underlying109
theorem set_key {S : Nat} (hS : S < 128) : keyOf Try.prog 109 (.int .u64 (S : Int)) = some (.int .u64 (S : Int)) :=
  Go.Maps.keyOf_int_mk Try.underlying109 (by simp [Lit.wf, IntKind.min, IntKind.max, IntKind.bits, IntKind.signed]; omega)
/-- A list of different numbers below n has at most n of them. -/
theorem nodup_len : ∀ (n : Nat) (l : List Nat), l.Nodup → (∀ x ∈ l, x < n) → l.length ≤ n
  | 0, l, _, h => by
    cases l with
    | nil => simp
    | cons x t => exact absurd (h x (by simp)) (by omega)
  | n + 1, l, hd, h => by
    have h1 := nodup_len n (l.erase n) (hd.erase n) (fun x hx => by
      have hm := List.mem_of_mem_erase hx
      have hne : x ≠ n := fun e => by
        subst e
        exact (hd.not_mem_erase) hx
      have := h x hm
      omega)
    have h2 : l.length ≤ (l.erase n).length + 1 := by
      rw [List.length_erase]
      split <;> omega
    omega
/-- Every entry of the map is a list that reads as F says; all keys are sets of at most seven stations. -/
def MemoS (w : World) (bm lo : Nat) (F : Nat → List Nat) : Prop :=
  ∃ D : DataW Unit, w.ownsMap Try.prog 109 sliceElem bm 128 D ∧ (∀ kl, Go.Maps.has D kl = true → ∃ S : Nat, S < 128 ∧ kl = .int .u64 (S : Int)) ∧
    ∀ S : Nat, Go.Maps.has D (.int .u64 (S : Int)) = true →
      ∃ (b c : Nat), D.atKey (.int .u64 (S : Int)) (.agg []) = .agg [.lit (.int .i64 b), .lit (.int .i64 0), .lit (.int .i64 (F S).length), .lit (.int .i64 c)] ∧ SetsAt w (some ⟨b, 0, none⟩) (F S) ∧ lo ≤ b
section
variable {w w' : World} {bm lo : Nat} {F : Nat → List Nat}
theorem MemoS.isMap (h : MemoS w bm lo F) : IsMapAt w bm := by
  obtain ⟨D, ⟨es, c, hm, _⟩, _⟩ := h
  exact ⟨es, c, hm⟩
theorem MemoS.below (h : MemoS w bm lo F) (hb : Below w.heap.size w w') : MemoS w' bm lo F := by
  obtain ⟨D, ho, hK, hG⟩ := h
  refine ⟨D, ho.kept (grown_of_below hb none) (by simp), hK, fun S h1 => ?_⟩
  obtain ⟨b, c, h3, h4, h5⟩ := hG S h1
  exact ⟨b, c, h3, h4.below hb, h5⟩
theorem MemoS.made (w : World) (lo : Nat) (F : Nat → List Nat) : MemoS (w.alloc (.map #[] 0)) w.heap.size lo F :=
  ⟨.map [], (World.ownsMap_made w _ _ _).mono (by omega), fun kl h => by simp [Go.Maps.has] at h, fun S h => by simp [Go.Maps.has] at h⟩
theorem zeroSets (w : World) : (zeroValue 106).run Try.prog w = .ok (.slice none 0 0) w := by kernel_rfl
theorem MemoS.look (h : MemoS w bm lo F) {S : Nat} (hS : S < 128) :
    ∃ (a : Option Addr) (m c : Nat) (b : Bool), ((Instr.lookup 137 (.map (some bm)) (.int .u64 (S : Int)) true).run Try.prog w = .ok (.tuple #[.slice a m c, .bool b]) w) ∧
      (b = true → m = (F S).length ∧ (∃ g, a = some ⟨g, 0, none⟩ ∧ lo ≤ g) ∧ SetsAt w a (F S)) := by
  obtain ⟨D, ho, hK, hG⟩ := h
  obtain ⟨v, ps, hrun, hv⟩ := World.ownsMap.look_ok ho setKeyed Try.underlying137 (zeroSets w) (zd := .agg []) (zp := []) rfl (set_key hS)
  obtain ⟨a, m, c, rfl⟩ := sliceElem_form hv
  refine ⟨a, m, c, Go.Maps.has D (.int .u64 (S : Int)), hrun, fun hb => ?_⟩
  obtain ⟨g, c', e1, hI, hlo⟩ := hG S hb
  have hz : sliceElem (.slice (some ⟨g, 0, none⟩) (F S).length c') = some (.agg [.lit (.int .i64 g), .lit (.int .i64 0), .lit (.int .i64 (F S).length), .lit (.int .i64 c')], []) := rfl
  have := sliceElem_inj hv hz e1
  simp at this
  obtain ⟨rfl, rfl, rfl⟩ := this
  exact ⟨rfl, ⟨g, rfl, hlo⟩, hI⟩
/-- The entries are different sets, so they are few. -/
theorem owns_few {n : Nat} {D : DataW Unit} (h : w.ownsMap Try.prog 109 sliceElem bm n D) (hK : ∀ kl, Go.Maps.has D kl = true → ∃ S : Nat, S < 128 ∧ kl = .int .u64 (S : Int)) : w.ownsMap Try.prog 109 sliceElem bm 128 D := by
  obtain ⟨es, hD, hne, hkey⟩ := h.entries setKeyed
  obtain ⟨es', clock, hb, F, hs, hD'⟩ := h
  refine ⟨es', clock, hb, F, ?_, hD'⟩
  have hl : es.length = es'.size := by
    have e : DataW.map es = DataW.map ((es'.toList.map (Go.WideElems.rg Try.prog 109 sliceElem)).foldr DataW.insert []) := by rw [← hD, ← hD']
    have e2 := DataW.map.inj e
    rw [e2, length_sorted]
    simp
  rw [← hl]
  have hall : ∀ p ∈ es, ∃ S : Nat, S < 128 ∧ p.1 = .int .u64 (S : Int) := fun p hp => by
    refine hK p.1 ?_
    rw [hD, Go.Maps.has_eq, List.any_eq_true]
    exact ⟨p, hp, WideAt.sameKey_self (hkey p hp)⟩
  have hmap : (es.map fun p => match p.1 with | .int _ z => z.toNat | _ => 0).length ≤ 128 := by
    refine nodup_len 128 _ ?_ ?_
    · rw [List.Nodup, List.pairwise_map]
      refine hne.imp_of_mem ?_
      intro p q hp hq hpq e
      obtain ⟨S, _, h1⟩ := hall p hp
      obtain ⟨T, _, h2⟩ := hall q hq
      rw [h1, h2] at e hpq
      simp at e
      exact hpq (by rw [e])
    · intro x hx
      obtain ⟨p, hp, rfl⟩ := List.mem_map.1 hx
      obtain ⟨S, hS, h1⟩ := hall p hp
      rw [h1]
      simpa using hS
  simpa using hmap
end
theorem wpList_memoS_put {w : World} {ops : Array Oper} {rest : List Oper} {o : Oper} {a : Act} {Q : Exit → Act → World → Prop} {bm lo : Nat} {F : Nat → List Nat} {S : Nat} (hS : S < 128)
    (hg : o.guard = none) (m k v : Operand) (hop : o.op = Op.mapUpdate 137 m k v) (hm : a.eval m = .map (some bm)) (hk : a.eval k = .int .u64 (S : Int)) (g c : Nat) (hv : a.eval v = .slice (some ⟨g, 0, none⟩) (F S).length c)
    (hI : SetsAt w (some ⟨g, 0, none⟩) (F S)) (hlo : lo ≤ g) (h : MemoS w bm lo F) (hK : ∀ w', MemoS w' bm lo F → Keep bm w w' → wpList Try.prog ops Q rest (a.put o.dst undef) w') :
    wpList Try.prog ops Q (o :: rest) a w := by
  have hmap := h.isMap
  obtain ⟨D, ho, hKs, hG⟩ := h
  refine wpList_mapUpdate_own w hg m k v 137 hop 109 106 setKeyed Try.underlying137 sliceElem bm 128 D hm ho (by unfold maxLen; omega) (.int .u64 (S : Int)) (.slice (some ⟨g, 0, none⟩) (F S).length c) (.int .u64 (S : Int)) hk hv (set_key hS)
    (.agg [.lit (.int .i64 g), .lit (.int .i64 0), .lit (.int .i64 (F S).length), .lit (.int .i64 c)]) [] rfl fun w' ho' hgr => ?_
  have hmap' : IsMapAt w' bm := by
    obtain ⟨es, c, hm, _⟩ := ho'
    exact ⟨es, c, hm⟩
  have hkp : Keep bm w w' := ⟨hgr, hmap, hmap'⟩
  have hKs' : ∀ kl, Go.Maps.has (D.put (.int .u64 (S : Int)) (.agg [.lit (.int .i64 g), .lit (.int .i64 0), .lit (.int .i64 (F S).length), .lit (.int .i64 c)])) kl = true → ∃ S : Nat, S < 128 ∧ kl = .int .u64 (S : Int) := fun kl hh => by
    by_cases e : kl = .int .u64 (S : Int)
    · exact ⟨S, hS, e⟩
    · rw [Go.Maps.has_put_other e] at hh
      exact hKs kl hh
  refine hK w' ⟨_, owns_few ho' hKs', hKs', fun T hh => ?_⟩ hkp
  by_cases e : T = S
  · subst e
    refine ⟨g, c, ?_, hI.keep hkp, hlo⟩
    rw [Go.Maps.atKey_put_same ho.isMap (setKeyed.key (set_key hS))]
  · have e' : (.int .u64 (T : Int) : Lit) ≠ .int .u64 (S : Int) := fun h => e (by simp at h; omega)
    rw [Go.Maps.has_put_other e'] at hh
    obtain ⟨b', c', h3, h4, h5⟩ := hG T hh
    refine ⟨b', c', ?_, h4.keep hkp, h5⟩
    rw [Go.Maps.atKey_put_other e']
    exact h3
end Go.Proofs.Ytomjlmhnjgohdaa
