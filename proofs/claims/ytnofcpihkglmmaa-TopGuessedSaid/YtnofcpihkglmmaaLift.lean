/- The arguments of a law, opened. -/
import Derived.Test.YtnofcpihkglmmaaAp
import Derived.ProofKit
import Derived.OpenShut
import Derived.ShutString
import Derived.ChangeOld
import Derived.Deep.Slices
import Derived.Deep.Fields
import Derived.ChangeSame
import Derived.Lib.SmallJoins
import Derived.SizedLaws
namespace Go.Proofs.Ytnofcpihkglmmaa
set_option linter.unusedVariables false
set_option linter.unusedSimpArgs false
set_option linter.unnecessarySimpa false
open Go.RowKit Go.Flow
open Go.ChangeShapes Go.WideShapes Go.ChangeAt Go.Deep Go.Joins

section
variable {H : Type} {enc : TypeId × Value → H} {P : Program} {w : World} {base : Nat} {spare : Nat → Bool} {held : Bool}
theorem open_slice_fields' {t e : TypeId} {fs : Array Field} {fuel : Nat} {cs : List Value} {x : DataW H × List MemPlace} (ht : P.underlying t = some (.slice e)) (he : P.underlying e = some (.struct fs))
    (hone : oneCellFields P fs = true) (hC : P.cellsOf e = fs.size) (h : DataW.trod enc P w base spare held fuel t cs = some x) :
    (cs = [.slice none 0 0]) ∨
    ∃ (a : Addr) (len cap : Nat), cs = [.slice (some a) len cap] ∧ len ≤ cap ∧ cap ≤ maxLen ∧
      ∀ i, i < len → ∀ (j : Nat) (f : Field), fs[j]? = some f → ∃ (n : Nat) (v : Value) (y : DataW H × List MemPlace), w.cell? (a.add (i * fs.size + j)) = some v ∧ DataW.trod enc P w base spare held n f.type [v] = some y := by
  rcases open_slice ht h with ⟨h0, _⟩ | ⟨a, len, cap, m, n, D, Pl, hcs, hb, hl, hm, hmm, hx, hi⟩
  · exact .inl h0
  · refine .inr ⟨a, len, cap, hcs, hl, hm, fun i hil => ?_⟩
    have him : i < m := by rw [hmm]; split <;> omega
    obtain ⟨cs', hc, ht'⟩ := hi i him
    rw [hC] at hc
    obtain ⟨ys, n', hn', hy, hlen, hyl, hf⟩ := DataW.trod_struct he ht'
    obtain ⟨_, hcl, hat⟩ := World.cells?_some hc
    intro j f hj
    obtain ⟨ho, hk⟩ := hone_of hone j f hj
    have hjl : j < fs.size := (Array.getElem?_eq_some_iff.1 hj).1
    have hcell := hat j hjl
    have hv : cs'[j]? = some (cs'[j]'(by omega)) := List.getElem?_eq_getElem (by omega)
    have h1 := hf j f hj
    rw [ho, hk] at h1
    have hone' : (cs'.drop j).take 1 = [cs'[j]'(by omega)] := by
      rw [List.drop_eq_getElem_cons (by omega)]
      rfl
    rw [hone'] at h1
    have hys : ys[j]? = some (ys[j]'(by omega)) := List.getElem?_eq_getElem (by omega)
    refine ⟨_, _, _, ?_, h1.trans hys⟩
    rw [← Go.Deep.add_add, hcell, hv]

theorem addr_plain {w : World} {a : Addr} {v : Value} (h : w.cell? (a.add 0) = some v) : ∃ b off, a = ⟨b, off, none⟩ ∧ b < w.heap.size := by
  obtain ⟨b, off, sp⟩ := a
  have hs := World.cell?_spot h
  simp [Addr.add] at hs
  subst hs
  rw [addr_add] at h
  exact ⟨b, off, rfl, cell_lt h⟩

theorem open_intsL {t e : TypeId} {fuel : Nat} {cs : List Value} {x : DataW H × List MemPlace} (ht : P.underlying t = some (.slice e)) (he : P.underlying e = some (.int .i64)) (hc : P.cellsOf e = 1)
    (h : DataW.trod enc P w base spare held fuel t cs = some x) : ∃ (a : Option Addr) (xs : List Int) (c : Nat), cs = [.slice a xs.length c] ∧ IntsAt w a xs ∧ (a = none → c = 0) ∧ xs.length ≤ c ∧ c ≤ maxLen ∧ ∀ n ∈ xs, (Lit.int .i64 n).wf = true := by
  rcases open_ints ht he hc h with ⟨h0, _⟩ | ⟨a, len, cap, zs, hcs, _, hl, hm, hz, _, hcell, hw⟩
  · exact ⟨none, [], 0, h0, IntsAt.nil _ _, fun _ => rfl, Nat.le_refl _, by unfold maxLen; omega, fun n hn => by simp at hn⟩
  · have hzl : len ≤ zs.length := by rw [hz]; split <;> omega
    refine ⟨some a, zs.take len, cap, by rw [hcs]; simp [Nat.min_eq_left hzl], fun k hk => ?_, (fun h => by cases h), by simp; omega, hm, fun n hn => hw n (List.mem_of_mem_take hn)⟩
    have hk' : k < len := by simp at hk; omega
    obtain ⟨b, off, rfl, hb⟩ := addr_plain (hcell 0 (by omega))
    have hcl := hcell k (by omega)
    rw [addr_add] at hcl
    exact ⟨b, off, rfl, hb, by rw [hcl]; simp [List.getElem?_take, hk']⟩

theorem open_u8L {t e : TypeId} {fuel : Nat} {cs : List Value} {x : DataW H × List MemPlace} (ht : P.underlying t = some (.slice e)) (he : P.underlying e = some (.int .u8)) (hc : P.cellsOf e = 1)
    (h : DataW.trod enc P w base spare held fuel t cs = some x) : ∃ (a : Option Addr) (xs : List Int) (c : Nat), cs = [.slice a xs.length c] ∧ U8At w a xs ∧ (a = none → c = 0) ∧ xs.length ≤ c ∧ c ≤ maxLen ∧ ∀ n ∈ xs, 0 ≤ n ∧ n ≤ 255 := by
  rcases open_ints ht he hc h with ⟨h0, _⟩ | ⟨a, len, cap, zs, hcs, _, hl, hm, hz, _, hcell, hw⟩
  · exact ⟨none, [], 0, h0, fun k hk => by simp at hk, fun _ => rfl, Nat.le_refl _, by unfold maxLen; omega, fun n hn => by simp at hn⟩
  · have hzl : len ≤ zs.length := by rw [hz]; split <;> omega
    refine ⟨some a, zs.take len, cap, by rw [hcs]; simp [Nat.min_eq_left hzl], fun k hk => ?_, (fun h => by cases h), by simp; omega, hm, fun n hn => by have := hw n (List.mem_of_mem_take hn); simp [Lit.wf, IntKind.min, IntKind.max, IntKind.bits, IntKind.signed] at this; omega⟩
    have hk' : k < len := by simp at hk; omega
    obtain ⟨b, off, rfl, hb⟩ := addr_plain (hcell 0 (by omega))
    have hcl := hcell k (by omega)
    rw [addr_add] at hcl
    exact ⟨b, off, rfl, hb, by rw [hcl]; simp [List.getElem?_take, hk']⟩

theorem open_recs3 {t e : TypeId} {f0 f1 f2 : Field} {fuel : Nat} {cs : List Value} {x : DataW H × List MemPlace} (ht : P.underlying t = some (.slice e)) (he : P.underlying e = some (.struct #[f0, f1, f2]))
    (hone : oneCellFields P #[f0, f1, f2] = true) (hC : P.cellsOf e = 3) (h0 : P.underlying f0.type = some (.int .i64)) (h1 : P.underlying f1.type = some (.int .i64)) (h2 : P.underlying f2.type = some (.int .i64))
    (h : DataW.trod enc P w base spare held fuel t cs = some x) : ∃ (a : Option Addr) (xs : List K3) (c : Nat), cs = [.slice a xs.length c] ∧ Recs3At w a xs ∧ (a = none → c = 0) ∧ xs.length ≤ c ∧ c ≤ maxLen := by
  rcases open_slice_fields' ht he hone hC h with hn | ⟨a, len, cap, hcs, hl, hm, hi⟩
  · exact ⟨none, [], 0, hn, Recs3At.nil _ _, fun _ => rfl, Nat.le_refl _, by unfold maxLen; omega⟩
  · have each : ∀ i, ∃ k : K3, i < len → w.cell? (a.add (i * 3)) = some (.int .i64 k.1) ∧ w.cell? (a.add (i * 3 + 1)) = some (.int .i64 k.2.1) ∧ w.cell? (a.add (i * 3 + 2)) = some (.int .i64 k.2.2) := by
      intro i
      by_cases hil : i < len
      · obtain ⟨n0, v0, y0, c0, t0⟩ := hi i hil 0 f0 rfl
        obtain ⟨n1, v1, y1, c1, t1⟩ := hi i hil 1 f1 rfl
        obtain ⟨n2, v2, y2, c2, t2⟩ := hi i hil 2 f2 rfl
        obtain ⟨z0, e0, _, _⟩ := DataW.trod_int h0 t0
        obtain ⟨z1, e1, _, _⟩ := DataW.trod_int h1 t1
        obtain ⟨z2, e2, _, _⟩ := DataW.trod_int h2 t2
        simp at e0 e1 e2
        subst e0 e1 e2
        exact ⟨(z0, z1, z2), fun _ => ⟨c0, c1, c2⟩⟩
      · exact ⟨(0, 0, 0), fun h => absurd h hil⟩
    obtain ⟨f, hf⟩ := Classical.axiomOfChoice each
    refine ⟨some a, (List.range len).map f, cap, by rw [hcs]; simp, fun k hk => ?_, (fun h => by cases h), by simpa using hl, hm⟩
    have hk' : k < len := by simpa using hk
    obtain ⟨e0, e1, e2⟩ := hf k hk'
    obtain ⟨b, off, rfl, hb⟩ := addr_plain (by simpa using (hf 0 (by omega)).1)
    rw [addr_add] at e0 e1 e2
    exact ⟨b, off, rfl, hb, by simpa using e0, by simpa [Nat.add_assoc] using e1, by simpa [Nat.add_assoc] using e2⟩
end

section
variable {H : Type} {enc : TypeId × Value → H} {w : World} {base : Nat} {spare : Nat → Bool} {held : Bool}
set_option maxRecDepth 100000 in
theorem open_book {r : Reach} {b0 : Nat} {v : Value} {d : DataW H} {p : List MemPlace} (hv : Value.okWide Try.prog w r b0 28 v) (h : DataW.Trod enc Try.prog w base spare held 28 v d p) :
    ∃ (s wo : Int) (ak : Option Addr) (ks : List K3) (ck : Nat) (ad : Option Addr) (ds : List Int) (cd : Nat), v = .agg #[.int .i64 s, .int .i64 wo, .slice ak ks.length ck, .slice ad ds.length cd] ∧ Recs3At w ak ks ∧ IntsAt w ad ds ∧ (ak = none → ck = 0) ∧ (ad = none → cd = 0) := by
  obtain ⟨v0, v1, v2, v3, y0, y1, y2, y3, n, rfl, _, _, t0, t1, t2, t3⟩ := open_agg4 Try.underlying28 (by kernel_rfl) (by kernel_rfl) hv h
  obtain ⟨s, e0, _, _⟩ := DataW.trod_int Try.underlying3 t0
  obtain ⟨wo, e1, _, _⟩ := DataW.trod_int Try.underlying3 t1
  obtain ⟨ak, ks, ck, e2, hk, nk, _, _⟩ := open_recs3 Try.underlying25 Try.underlying41 (by kernel_rfl) (by kernel_rfl) Try.underlying3 Try.underlying3 Try.underlying3 t2
  obtain ⟨ad, ds, cd, e3, hd, nd, _, _⟩ := open_intsL Try.underlying26 Try.underlying3 (by kernel_rfl) t3
  simp at e0 e1 e2 e3
  subst e0 e1 e2 e3
  exact ⟨s, wo, ak, ks, ck, ad, ds, cd, rfl, hk, hd, nk, nd⟩
end
end Go.Proofs.Ytnofcpihkglmmaa
