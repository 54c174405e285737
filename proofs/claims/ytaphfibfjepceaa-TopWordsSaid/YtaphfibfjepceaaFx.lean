/- TopWords: the walk, joined; a code as an argument -/
import Derived.Test.YtaphfibfjepceaaFw
namespace Go.Proofs.Ytaphfibfjepceaa
set_option linter.unusedVariables false
set_option linter.unusedSimpArgs false
set_option linter.unnecessarySimpa false
open Go.RowKit Go.Flow Go.Shelf
open Go.ChangeShapes Go.WideShapes Go.ChangeAt
theorem topw_walk (ac : Option Addr) (ss : List ByteArray) (cc : Nat) (at0 : Option Addr) (text : List Int) (ct : Nat) (aw : Option Addr) (ws : List Int) (cw : Nat) (er : Int) (st rate keeps : Int) (ds : List Dis) (ad : Option Addr) (cd : Nat) (wh : Int) (w : World) (hx : StrsAt w ac ss) (nc : ac = none → cc = 0) (lc : ss.length ≤ cc) (mc : cc ≤ maxLen) (ht : IntsAt w at0 text) (nt : at0 = none → ct = 0) (lt : text.length ≤ ct) (mt : ct ≤ maxLen)
    (hw : U16At w aw ws) (nw : aw = none → cw = 0) (lw : ws.length ≤ cw) (mw : cw ≤ maxLen) (hu : ∀ n ∈ ws, 0 ≤ n ∧ n ≤ 65535) (her : 0 ≤ er ∧ er ≤ 255) (hd : DisAt w ad ds) (big : AccBig ds) (hwh : 0 ≤ wh ∧ wh ≤ 255) :
    Calls Try.prog 3 #[.agg #[.slice ac ss.length cc], .slice at0 text.length ct, .slice aw ws.length cw, .int .u8 er, .agg #[.int .i64 st, .int .i64 rate, .int .i64 keeps, .slice ad ds.length cd], .int .u8 wh] w fun e w' => e = .returned (.bool true) ∧ Below w.heap.size w w' := by
  have hsl : ss.length ≤ 9223372036854775807 := by unfold maxLen at mc; omega
  have hwl : ws.length ≤ 9223372036854775807 := by unfold maxLen at mw; omega
  by_cases h1 : thinS ss = true
  · by_cases h2 : faultS ss = 0
    · by_cases h3 : text.length = 0
      · exact topw_3 ac ss cc at0 text ct aw ws cw er st rate keeps ds ad cd wh w hx hsl ht hd big h1 h2 h3
      · by_cases h4 : text.length ≤ 5
        · by_cases h5 : isTextB ss.length text = true
          · by_cases h6 : thinB ds = true
            · by_cases h7 : accErr ⟨st, rate, keeps, ds⟩ = 0
              · by_cases h8 : ds.length = 0
                · exact topw_8 ac ss cc at0 text ct aw ws cw er st rate keeps ds ad cd wh w hx hsl ht hd big h1 h2 h3 h4 h5 h6 h7 h8
                · exact topw_main ac ss cc at0 text ct aw ws cw er st rate keeps ds ad cd wh w hx hsl ht hd big hw hu hwl her hwh nc h1 h2 h3 h4 h5 h6 h7 h8
              · exact topw_7 ac ss cc at0 text ct aw ws cw er st rate keeps ds ad cd wh w hx hsl ht hd big h1 h2 h3 h4 h5 h6 h7
            · exact topw_6 ac ss cc at0 text ct aw ws cw er st rate keeps ds ad cd wh w hx hsl ht hd big h1 h2 h3 h4 h5 (by simpa using h6)
          · exact topw_5 ac ss cc at0 text ct aw ws cw er st rate keeps ds ad cd wh w hx hsl ht hd big h1 h2 h3 h4 (by simpa using h5)
        · exact topw_4 ac ss cc at0 text ct aw ws cw er st rate keeps ds ad cd wh w hx hsl ht hd big h1 h2 h3 h4
    · exact topw_2 ac ss cc at0 text ct aw ws cw er st rate keeps ds ad cd wh w hx hsl ht hd big h1 h2
  · exact topw_1 ac ss cc at0 text ct aw ws cw er st rate keeps ds ad cd wh w hx hsl ht hd big (by simpa using h1)
section
variable {H : Type} {enc : TypeId × Value → H} {w : World} {base : Nat} {spare : Nat → Bool} {held : Bool}
def StrC (x : ByteArray) (cs : List Value) : Prop := cs = [.string x]
set_option maxRecDepth 100000 in
theorem open_strs2 {n : Nat} {cs : List Value} {y : DataW H × List MemPlace} (h : DataW.trod enc Try.prog w base spare held n 22 cs = some y) : ∃ (a : Option Addr) (xs : List ByteArray) (c : Nat), cs = [.slice a xs.length c] ∧ StrsAt w a xs ∧ (a = none → c = 0) ∧ xs.length ≤ c ∧ c ≤ maxLen := by
  obtain ⟨a, xs, c, h1, h2, h3, h4, h5⟩ := open_each (⟨#[]⟩ : ByteArray) Try.underlying22 1 (by kernel_rfl) (by omega) StrC (fun n cs' y ht hl => by obtain ⟨z, e, _⟩ := DataW.trod_string Try.underlying9 ht; exact ⟨z, e⟩) h
  refine ⟨a, xs, c, h1, fun k hk => ?_, h2, h3, h4⟩
  obtain ⟨b, off, cs', ha, hb, hr, hc⟩ := h5 k hk
  rw [hr] at hc
  refine ⟨b, off, ha, hb, ?_⟩
  have := hc 0 _ rfl
  simpa [hk] using this
set_option maxRecDepth 100000 in
theorem open_codeR {r : Reach} {b0 : Nat} {v : Value} {d : DataW H} {p : List MemPlace} (hv : Value.okWide Try.prog w r b0 24 v) (h : DataW.Trod enc Try.prog w base spare held 24 v d p) :
    ∃ (a : Option Addr) (ss : List ByteArray) (c : Nat), v = .agg #[.slice a ss.length c] ∧ StrsAt w a ss ∧ (a = none → c = 0) ∧ ss.length ≤ c ∧ c ≤ maxLen := by
  obtain ⟨cs, rfl, hsz⟩ := okWide_struct Try.underlying24 hv
  have h1 : cs.size = 1 := hsz.trans (by kernel_rfl)
  obtain ⟨c0, rfl⟩ : ∃ c0, cs = #[c0] := by
    obtain ⟨l⟩ := cs
    match l, h1 with
    | [c0], _ => exact ⟨c0, rfl⟩
  obtain ⟨fuel, hf⟩ := h
  obtain ⟨y0, n, _, _, h0⟩ := trod_struct1 Try.underlying24 hf
  rw [show Try.prog.cellsOf 22 = 1 by kernel_rfl] at h0
  obtain ⟨a, xs, c, e, hx, hn, h2, h3⟩ := open_strs2 h0
  simp [Value.cells] at e
  subst e
  exact ⟨a, xs, c, rfl, hx, hn, h2, h3⟩
end
end Go.Proofs.Ytaphfibfjepceaa
