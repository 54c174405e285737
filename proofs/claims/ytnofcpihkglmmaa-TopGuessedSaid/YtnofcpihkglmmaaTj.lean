/- TopGuessed: the walk, joined; the arguments, opened -/
import Derived.Test.YtnofcpihkglmmaaTi
import Derived.Test.YtnofcpihkglmmaaLift
namespace Go.Proofs.Ytnofcpihkglmmaa
set_option linter.unusedVariables false
set_option linter.unusedSimpArgs false
set_option linter.unnecessarySimpa false
open Go.RowKit Go.Flow
open Go.ChangeShapes Go.WideShapes Go.ChangeAt Go.Deep Go.Joins
theorem topg_walk (ac : Option Addr) (ss : List ByteArray) (cc : Nat) (s wo : Int) (ak : Option Addr) (ks : List (Int × Int × Int)) (ck : Nat) (ad : Option Addr) (ds : List Int) (cd : Nat) (ap : Option Addr) (plain : List Int) (cp : Nat) (aw : Option Addr) (ws : List Int) (cw : Nat) (wh at_ er bits : Int) (w : World) (hx : StrsAt w ac ss) (nc : ac = none → cc = 0) (lc : ss.length ≤ cc) (mc : cc ≤ maxLen) (hk : Recs3At w ak ks) (hd : IntsAt w ad ds) (nd : ad = none → cd = 0) (hp : IntsAt w ap plain) (np : ap = none → cp = 0) (lp : plain.length ≤ cp) (mp : cp ≤ maxLen) (hw : W16At w aw ws) (nw : aw = none → cw = 0) (lw : ws.length ≤ cw) (mw : cw ≤ maxLen) (hu : ∀ n ∈ ws, 0 ≤ n ∧ n ≤ 65535) (hwh : 0 ≤ wh ∧ wh ≤ 255) (hat : 0 ≤ at_ ∧ at_ ≤ 255) (her : 0 ≤ er ∧ er ≤ 255) (hbt : 0 ≤ bits ∧ bits ≤ 65535) :
    Calls Try.prog 3 #[.agg #[.slice ac ss.length cc], .agg #[.int .i64 s, .int .i64 wo, .slice ak ks.length ck, .slice ad ds.length cd], .slice ap plain.length cp, .slice aw ws.length cw, .int .u8 wh, .int .u8 at_, .int .u8 er, .int .u16 bits] w fun e w' => e = .returned (.bool true) ∧ Below w.heap.size w w' := by
  have hsl : ss.length ≤ 9223372036854775807 := by unfold maxLen at mc; omega
  have hwl : ws.length ≤ 9223372036854775807 := by unfold maxLen at mw; omega
  by_cases h1 : thinS ss = true
  · by_cases h2 : faultS ss = 0
    · by_cases h3 : (decide (ks.length ≤ 8) && decide (ds.length ≤ 11)) = true
      · by_cases h4 : bookErr s wo ks ds = 0
        · by_cases h5 : plain.length ≤ 10
          · by_cases h6 : plain.length = 0
            · exact topg_6 ac ss cc s wo ak ks ck ad ds cd ap plain cp aw ws cw wh at_ er bits w hx hsl hk hd hp h1 h2 h3 h4 h5 h6
            · by_cases h7 : plain.all (plainOk s) = true
              · by_cases h8 : 3 ≤ ss.length
                · exact topg_main ac ss cc s wo ak ks ck ad ds cd ap plain cp aw ws cw wh at_ er bits w hx hsl hk hd hp hw hu hwl hwh hat her hbt.1 hbt.2 nd h1 h2 h3 h4 h5 h6 h7 h8
                · exact topg_8 ac ss cc s wo ak ks ck ad ds cd ap plain cp aw ws cw wh at_ er bits w hx hsl hk hd hp h1 h2 h3 h4 h5 h6 h7 h8
              · exact topg_7 ac ss cc s wo ak ks ck ad ds cd ap plain cp aw ws cw wh at_ er bits w hx hsl hk hd hp h1 h2 h3 h4 h5 h6 (by simpa using h7)
          · exact topg_5 ac ss cc s wo ak ks ck ad ds cd ap plain cp aw ws cw wh at_ er bits w hx hsl hk hd hp h1 h2 h3 h4 h5
        · exact topg_4 ac ss cc s wo ak ks ck ad ds cd ap plain cp aw ws cw wh at_ er bits w hx hsl hk hd hp h1 h2 h3 h4
      · exact topg_3 ac ss cc s wo ak ks ck ad ds cd ap plain cp aw ws cw wh at_ er bits w hx hsl hk hd hp h1 h2 (by simpa using h3)
    · exact topg_2 ac ss cc s wo ak ks ck ad ds cd ap plain cp aw ws cw wh at_ er bits w hx hsl hk hd hp h1 h2
  · exact topg_1 ac ss cc s wo ak ks ck ad ds cd ap plain cp aw ws cw wh at_ er bits w hx hsl hk hd hp (by simpa using h1)
theorem ownK : ownKnob Try.prog.godebug = none := by kernel_rfl
theorem laidOutP : laidOutB Try.prog = true := by kernel_rfl
section
variable {H : Type} {enc : TypeId × Value → H} {P : Program} {w : World} {base : Nat} {spare : Nat → Bool} {held : Bool}
/-- A slice: each element's cells mean something. -/
theorem open_each {α : Type} {t e : TypeId} {fuel : Nat} {cs : List Value} {x : DataW H × List MemPlace} (z0 : α) (ht : P.underlying t = some (.slice e)) (size : Nat) (hC : P.cellsOf e = size) (hpos : 0 < size) (R : α → List Value → Prop)
    (he : ∀ n cs' y, DataW.trod enc P w base spare held n e cs' = some y → cs'.length = size → ∃ z, R z cs') (h : DataW.trod enc P w base spare held fuel t cs = some x) :
    ∃ (a : Option Addr) (xs : List α) (c : Nat), cs = [.slice a xs.length c] ∧ (a = none → c = 0) ∧ xs.length ≤ c ∧ c ≤ maxLen ∧
      ∀ k (hk : k < xs.length), ∃ b off cs', a = some ⟨b, off, none⟩ ∧ b < w.heap.size ∧ R xs[k] cs' ∧ ∀ (j : Nat) v, cs'[j]? = some v → w.cell? ⟨b, off + k * size + j, none⟩ = some v := by
  rcases open_slice ht h with ⟨h0, _⟩ | ⟨a, len, cap, m, n, D, Pl, hcs, hb, hl, hm, hmm, hx, hi⟩
  · exact ⟨none, [], 0, h0, fun _ => rfl, Nat.le_refl _, by unfold maxLen; omega, fun k hk => absurd hk (Nat.not_lt_zero k)⟩
  · have each : ∀ i, ∃ z : α, i < len → ∃ cs', R z cs' ∧ cs'.length = size ∧ ∀ (j : Nat) v, cs'[j]? = some v → w.cell? ((a.add (i * size)).add j) = some v := by
      intro i
      by_cases hil : i < len
      · have him : i < m := by rw [hmm]; split <;> omega
        obtain ⟨cs', hc, ht'⟩ := hi i him
        rw [hC] at hc
        obtain ⟨_, hcl, hat⟩ := World.cells?_some hc
        obtain ⟨z, hz⟩ := he _ _ _ ht' hcl
        refine ⟨z, fun _ => ⟨cs', hz, hcl, fun j v hj => ?_⟩⟩
        have hjl : j < size := by rw [← hcl]; exact (List.getElem?_eq_some_iff.1 hj).1
        rw [hat j hjl]; exact hj
      · exact ⟨z0, fun h => absurd h hil⟩
    obtain ⟨f, hf⟩ := Classical.axiomOfChoice each
    refine ⟨some a, (List.range len).map f, cap, by rw [hcs]; simp, (fun h => by cases h), by simpa using hl, hm, fun k hk => ?_⟩
    have hk' : k < len := by simpa using hk
    obtain ⟨cs0, _, hl0, hc0⟩ := hf 0 (by omega)
    obtain ⟨v0, hv0⟩ : ∃ v, cs0[0]? = some v := ⟨cs0[0]'(by omega), by simp⟩
    obtain ⟨b, off, rfl, hbw⟩ := addr_plain (by have := hc0 0 v0 hv0; rw [Nat.zero_mul, Go.Deep.add_add] at this; exact this)
    obtain ⟨cs', hz, _, hc⟩ := hf k hk'
    refine ⟨b, off, cs', rfl, hbw, by simpa using hz, fun j v hj => ?_⟩
    have := hc j v hj
    rw [addr_add, addr_add] at this
    exact this
end
section
variable {H : Type} {enc : TypeId × Value → H} {w : World} {base : Nat} {spare : Nat → Bool} {held : Bool}
def U16C (x : Int) (cs : List Value) : Prop := cs = [.int .u16 x] ∧ 0 ≤ x ∧ x ≤ 65535
set_option maxRecDepth 100000 in
theorem open_words {r : Reach} {b0 : Nat} {v : Value} {d : DataW H} {p : List MemPlace} (hv : Value.okWide Try.prog w r b0 29 v) (h : DataW.Trod enc Try.prog w base spare held 29 v d p) :
    ∃ (a : Option Addr) (xs : List Int) (c : Nat), v = .slice a xs.length c ∧ W16At w a xs ∧ (a = none → c = 0) ∧ xs.length ≤ c ∧ c ≤ maxLen ∧ ∀ n ∈ xs, 0 ≤ n ∧ n ≤ 65535 := by
  obtain ⟨a0, len0, cap0, rfl⟩ := okWide_slice Try.underlying29 hv
  obtain ⟨fuel, hf⟩ := h
  obtain ⟨a, xs, c, h1, h2, h3, h4, h5⟩ := open_each 0 Try.underlying29 1 (by kernel_rfl) (by omega) U16C (fun n cs' y ht hl => by obtain ⟨z, e, _, hw⟩ := DataW.trod_int Try.underlying30 ht; exact ⟨z, e, by simp [Lit.wf, IntKind.min, IntKind.max, IntKind.bits, IntKind.signed] at hw; omega⟩) hf
  simp [Value.cells] at h1
  obtain ⟨rfl, rfl, rfl⟩ := h1
  refine ⟨_, xs, _, rfl, fun k hk => ?_, h2, h3, h4, fun n hn => ?_⟩
  · obtain ⟨b, off, cs', ha, hb, ⟨rfl, _⟩, hc⟩ := h5 k hk
    refine ⟨b, off, ha, hb, ?_⟩
    have := hc 0 _ rfl
    simpa [hk] using this
  · obtain ⟨k, hk, rfl⟩ := List.getElem_of_mem hn
    obtain ⟨b, off, cs', ha, hb, ⟨_, h1, h2⟩, hc⟩ := h5 k hk
    exact ⟨h1, h2⟩
set_option maxRecDepth 100000 in
theorem open_list {r : Reach} {b0 : Nat} {v : Value} {d : DataW H} {p : List MemPlace} (hv : Value.okWide Try.prog w r b0 26 v) (h : DataW.Trod enc Try.prog w base spare held 26 v d p) :
    ∃ (a : Option Addr) (xs : List Int) (c : Nat), v = .slice a xs.length c ∧ IntsAt w a xs ∧ (a = none → c = 0) ∧ xs.length ≤ c ∧ c ≤ maxLen := by
  obtain ⟨a0, len0, cap0, rfl⟩ := okWide_slice Try.underlying26 hv
  obtain ⟨fuel, hf⟩ := h
  obtain ⟨a, xs, c, e, hx, hn, h1, h2, _⟩ := open_intsL Try.underlying26 Try.underlying3 (by kernel_rfl) hf
  simp [Value.cells] at e
  obtain ⟨rfl, rfl, rfl⟩ := e
  exact ⟨_, xs, _, rfl, hx, hn, h1, h2⟩
def StrC (x : ByteArray) (cs : List Value) : Prop := cs = [.string x]
set_option maxRecDepth 100000 in
theorem open_strs2 {n : Nat} {cs : List Value} {y : DataW H × List MemPlace} (h : DataW.trod enc Try.prog w base spare held n 22 cs = some y) : ∃ (a : Option Addr) (xs : List ByteArray) (c : Nat), cs = [.slice a xs.length c] ∧ StrsAt w a xs ∧ (a = none → c = 0) ∧ xs.length ≤ c ∧ c ≤ maxLen := by
  obtain ⟨a, xs, c, h1, h2, h3, h4, h5⟩ := open_each (⟨#[]⟩ : ByteArray) Try.underlying22 1 (by kernel_rfl) (by omega) StrC (fun n cs' y ht hl => by obtain ⟨z, e, _⟩ := DataW.trod_string Try.underlying9 ht; exact ⟨z, e⟩) h
  refine ⟨a, xs, c, h1, fun k hk => ?_, h2, h3, h4⟩
  obtain ⟨b, off, cs', ha, hb, hr, hc⟩ := h5 k hk
  rw [hr] at hc
  refine ⟨b, off, ha, hb, ?_⟩
  have := hc 0 _ rfl
  simpa [hk] using this
set_option maxRecDepth 100000 in
theorem open_codeR {r : Reach} {b0 : Nat} {v : Value} {d : DataW H} {p : List MemPlace} (hv : Value.okWide Try.prog w r b0 24 v) (h : DataW.Trod enc Try.prog w base spare held 24 v d p) :
    ∃ (a : Option Addr) (ss : List ByteArray) (c : Nat), v = .agg #[.slice a ss.length c] ∧ StrsAt w a ss ∧ (a = none → c = 0) ∧ ss.length ≤ c ∧ c ≤ maxLen := by
  obtain ⟨cs, rfl, hsz⟩ := okWide_struct Try.underlying24 hv
  have h1 : cs.size = 1 := hsz.trans (by kernel_rfl)
  obtain ⟨c0, rfl⟩ : ∃ c0, cs = #[c0] := by
    obtain ⟨l⟩ := cs
    match l, h1 with
    | [c0], _ => exact ⟨c0, rfl⟩
  obtain ⟨fuel, hf⟩ := h
  obtain ⟨y0, n, _, _, h0⟩ := trod_struct1 Try.underlying24 hf
  rw [show Try.prog.cellsOf 22 = 1 by kernel_rfl] at h0
  obtain ⟨a, xs, c, e, hx, hn, h2, h3⟩ := open_strs2 h0
  simp [Value.cells] at e
  subst e
  exact ⟨a, xs, c, rfl, hx, hn, h2, h3⟩
end
end Go.Proofs.Ytnofcpihkglmmaa
