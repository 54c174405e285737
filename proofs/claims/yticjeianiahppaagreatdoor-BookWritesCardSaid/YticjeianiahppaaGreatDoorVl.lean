/- book, laws: what the laid variables give; the openers of arguments -/
import Derived.Test.YticjeianiahppaaGreatDoorBQ
import Derived.ProofKit
import Derived.LaidMore
import Derived.LaidSub
import Derived.LaidLaws
import Derived.Handed
import Derived.OpenShut
import Derived.SliceStrings
import Derived.Stop.Joined
import Derived.Lib.LaidTab
import Derived.Lay
namespace Go.Proofs.YticjeianiahppaaGreatDoor
set_option linter.unusedVariables false
set_option linter.unusedSimpArgs false
set_option linter.unnecessarySimpa false
open Go.RowKit Go.Flow
open Go.ChangeShapes Go.WideShapes Go.ChangeAt Go.Joins
theorem ownK : ownKnob Tryz.prog.godebug = none := by kernel_rfl
theorem laidOutP : laidOutB Tryz.prog = true := by kernel_rfl
theorem addr_plain {w : World} {a : Addr} {v : Value} (h : w.cell? (a.add 0) = some v) : ∃ b off, a = ⟨b, off, none⟩ ∧ b < w.heap.size := by
  obtain ⟨b, off, sp⟩ := a
  have hs := World.cell?_spot h
  simp [Addr.add] at hs
  subst hs
  rw [addr_add] at h
  exact ⟨b, off, rfl, zBl h⟩
set_option maxRecDepth 100000
section
variable {H : Type} {enc : TypeId × Value → H} {w : World} {base : Nat} {spare : Nat → Bool} {held : Bool}
theorem open_strs {r : Reach} {b0 : Nat} {v : Value} {d : DataW H} {p : List MemPlace} (hv : Value.okWide Tryz.prog w r b0 32 v) (h : DataW.Trod enc Tryz.prog w base spare held 32 v d p) :
    ∃ (a : Option Addr) (l : List ByteArray) (c : Nat), v = .slice a l.length c ∧ zAs w a l ∧ (a = none → c = 0) ∧ l.length ≤ 9223372036854775807 ∧ l.length ≤ c := by
  obtain ⟨a0, len0, cap0, rfl⟩ := okWide_slice Tryz.underlying32 hv
  obtain ⟨fuel, hf⟩ := h
  rcases open_strings Tryz.underlying32 Tryz.underlying9 (by kernel_rfl) hf with ⟨h0, _⟩ | ⟨a, len, cap, ss, hcs, _, hl, hm, hz, _, hcell, _⟩
  · simp [Value.cells] at h0
    obtain ⟨rfl, rfl, rfl⟩ := h0
    exact ⟨none, [], 0, rfl, fun k hk => absurd hk (Nat.not_lt_zero k), fun _ => rfl, by simp, by simp⟩
  · simp [Value.cells] at hcs
    obtain ⟨rfl, rfl, rfl⟩ := hcs
    have hzl : len0 ≤ ss.length := by rw [hz]; split <;> omega
    refine ⟨some a, ss.take len0, cap0, by simp [Nat.min_eq_left hzl], fun k hk => ?_, (fun h => by cases h), by rw [List.length_take]; unfold maxLen at hm; omega, by rw [List.length_take]; omega⟩
    have hk' : k < len0 := by simp at hk; omega
    obtain ⟨b, off, rfl, hb⟩ := addr_plain (hcell 0 (by omega))
    have hcl := hcell k (by omega)
    rw [addr_add] at hcl
    refine ⟨b, off, rfl, hb, ?_⟩
    rw [hcl, List.getElem_take]
    simp [List.getD_eq_getElem?_getD, List.getElem?_eq_getElem (show k < ss.length by omega)]
end
/-- The listed variables. -/
abbrev laidL : List (String × DataW Unit) := Rows.bookExplainedRow.laid
theorem row_err (u : TypeId) (h : Tryz.prog.typeName? 3 u = some "*errors.errorString") : u = 409 :=
  typeName_ptr_named (nm := "errors.errorString") (by rw [show "*" ++ "errors.errorString" = "*errors.errorString" by decide]; kernel_rfl) (by kernel_rfl) (by decide) u (by rw [show "*" ++ "errors.errorString" = "*errors.errorString" by decide]; exact h)
theorem laid_one {W : World} (h : laidMetH Tryz.prog laidL W) (n : String) (d : DataW Unit) (hd : laidL.filter (fun x => x.1 == n) = [(n, d)]) (hh : d.handleName?.isNone = true) : laidMet Tryz.prog [(n, d)] W := by
  have := h.filter (fun x => x.1 == n)
  rw [hd, MakeChecks.laidMetH_plain _ _ _ (by simpa using hh)] at this
  exact this
theorem err_of_laid {W : World} {n : String} {text : List UInt8} {g : Nat} (hg : Tryz.prog.globalNamed n = some g) (ht : (Tryz.prog.globals[g]?).map (·.type) = some 209)
    (h : laidMet Tryz.prog [(n, .iface "*errors.errorString" (.ptr (.agg [.lit (.string text)])))] W) : ∃ tp p, W.var? Tryz.prog n = some #[.iface tp p] := by
  obtain ⟨ps, ⟨g0, t0, cs0, f0, p0, q0, hg0, ht0, hv0, hd0, hq, e0⟩, _, hrows⟩ := h
  obtain rfl := Option.some.inj (hg.symm.trans hg0)
  obtain rfl := Option.some.inj (ht.symm.trans ht0)
  subst e0
  obtain ⟨f1, u, v, hcs, _, _⟩ := iface_of_trod Tryz.underlying209 hd0
  refine ⟨u, v, ?_⟩
  rw [hv0]
  obtain ⟨l⟩ := cs0
  simp at hcs
  rw [hcs]
theorem vars_of_laid {W : World} (h : laidMetH Tryz.prog laidL W) (hs : W.ShapedOpen Tryz.prog) : Vars W := by
  refine ⟨?_, ?_, ?_, ?_, ?_⟩
  · obtain ⟨⟨z, t⟩, hz⟩ := Option.isSome_iff_exists.1 (show (((begin Tryz.prog (fun _ _ => 0) default).world.heap[7]?).bind Obj.row?).isSome = true by kernel_rfl)
    obtain ⟨cs, hc, _⟩ := hs.1 7 z t (of_decide_eq_true (by kernel_rfl)) hz
    exact Nat.succ_le_of_lt (Array.getElem?_eq_some_iff.1 hc).1
  · refine Lib.tabIs_of_head (rest := []) (g := 0) (t := 376) (e := 345) (n := 20) (by kernel_rfl) (by kernel_rfl) Tryz.underlying376 Tryz.underlying345 (by kernel_rfl) (by kernel_rfl) ?_
    exact laid_one h _ _ (by kernel_rfl) (by kernel_rfl)
  · exact err_of_laid (g := 2) (by kernel_rfl) (by kernel_rfl) (laid_one h "strconv.ErrSyntax" Rows.laid_strconv_ErrSyntax (by kernel_rfl) (by kernel_rfl))
  · exact err_of_laid (g := 3) (by kernel_rfl) (by kernel_rfl) (laid_one h "strconv.ErrRange" Rows.laid_strconv_ErrRange (by kernel_rfl) (by kernel_rfl))
  · obtain ⟨cs, hc, h1, hr⟩ := hs.1 1 #[.int .i64 0] 3 (of_decide_eq_true (by kernel_rfl)) (by kernel_rfl)
    obtain ⟨ts, ht, _, hall⟩ := hr (by kernel_rfl)
    have e1 : Tryz.prog.cellTypes Tryz.prog.depth 3 = some [3] := by kernel_rfl
    obtain rfl := Option.some.inj (e1.symm.trans ht)
    have hsz : cs.size = 1 := by simpa using h1
    obtain ⟨u, hu, hok⟩ := hall 0 cs[0] (by rw [Array.getElem?_eq_getElem (by omega)])
    simp at hu
    subst hu
    have hm : ∃ m, cs[0] = .int .i64 m := by
      revert hok
      generalize cs[0] = v
      intro hok
      unfold Cell.ok at hok
      rw [Tryz.underlying3] at hok
      cases v <;> simp at hok
      exact ⟨_, by rw [hok.1]⟩
    obtain ⟨m, hm⟩ := hm
    refine ⟨m, ?_⟩
    have e : cs = #[.int .i64 m] := by
      refine Array.ext (by simpa using hsz) fun i h2 h3 => ?_
      obtain rfl : i = 0 := by omega
      simpa using hm
    rw [e] at hc
    simp [World.cell?, hc]
theorem handed_laid {H : Type} {enc : TypeId × Value → H} {os : Os} {f : FuncId} {fn : Func} {s : ChangeSpec}
    (started : os.Started) (noInit : Tryz.prog.inits.idxOf? f = none) (hfn : Tryz.prog.funcs[f]? = some fn)
    (witness : ∃ (w : World) (tape : Tape) (i : Input), w.os = os ∧ (w.forCall tape i).Shaped Tryz.checked.prog ∧ i.vars = [] ∧ Input.okWide Tryz.checked.prog (w.forCall tape i) .any w.heap.size f i ∧
      ((s.pre enc Tryz.prog fn [] false (w.forCall tape i).memory i.args ∧ laidMetH Tryz.prog laidL (w.forCall tape i).memory) ∧ sizedMet enc Tryz.prog fn (OpenSpec.ofChange s) false (w.forCall tape i).memory i.args) ∧ ({} : Assume).holds Tryz.checked.prog (lone (Frame.enter Tryz.checked.prog f i.args .normal) [] (w.forCall tape i)))
    (contract : ∀ (W : World) (base : Nat) (args : Array Value) (ds gs : List (DataW H)) (before : List MemPlace),
      (∀ (j : Nat) t v, fn.params[j]? = some t → args[j]? = some v → Value.okWide Tryz.prog W .any base t v) →
      DataW.Whole enc Tryz.prog fn.params.toList s.vars false W args.toList ds gs before → Vars W →
      Calls Tryz.prog f args W fun e W' => ∃ v, e = .returned v ∧ s.post enc Tryz.prog fn false true false false W args v W') :
    ReturnsInHanded {} Tryz.checked os f .any (fun w args => (s.pre enc Tryz.prog fn [] false w args ∧ laidMetH Tryz.prog laidL w) ∧ sizedMet enc Tryz.prog fn (OpenSpec.ofChange s) false w args) (s.post enc Tryz.prog fn false true false false) := by
  refine returnsInHanded_of_calls ownK started noInit witness ?_
  intro w tape i _ hsh _ hok hpre _
  obtain ⟨_, _, _, fn', hfn', _, _, _, _, hval⟩ := hok
  have e : fn' = fn := Option.some.inj (hfn'.symm.trans hfn)
  subst e
  obtain ⟨⟨⟨ds, gs, before, hw, hc⟩, hx⟩, hz⟩ := hpre
  have hw' := DataW.Whole.of_heap (w' := w.forCall tape i) (by rfl) hw
  refine (contract (w.forCall tape i) w.heap.size i.args ds gs before hval hw' (vars_of_laid (hx.of_heap (by rfl)) hsh)).mono fun e W' ⟨v, he, hp⟩ => ?_
  subst he
  exact ChangeSpec.post_blind hp
theorem laid_met (os : Os) (args : Array Value) : laidMetH Tryz.prog laidL ((World.laidAll Tryz.prog os laidL).forCall (fun _ _ => 0) ⟨#[], args, []⟩).memory := by
  rw [MakeChecks.laidMetH_plain _ _ _ (by kernel_rfl)]
  exact laidMet_laidAll _ (by kernel_rfl) (by kernel_rfl)
end Go.Proofs.YticjeianiahppaaGreatDoor
