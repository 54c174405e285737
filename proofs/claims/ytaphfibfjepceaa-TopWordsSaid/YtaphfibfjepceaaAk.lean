/- pay: Shares, Balance · pay: Balance · pay: Balance, the walk -/
import Derived.Test.YtaphfibfjepceaaAi
import Derived.Lib.SliceRun
import Derived.Test.YtaphfibfjepceaaCep
namespace Go.Proofs.Ytaphfibfjepceaa
set_option linter.unusedVariables false
set_option linter.unusedSimpArgs false
set_option linter.unnecessarySimpa false
open Go.RowKit Go.Flow Go.Shelf

theorem srcNone {a : Option Addr} {xs : List Int} {c : Nat} (hn : a = none → xs = [] ∧ c = 0) : a = none → xs.length = 0 ∧ c = 0 := fun h => ⟨by rw [(hn h).1]; rfl, (hn h).2⟩
set_option maxRecDepth 100000 in
set_option maxHeartbeats 400000 in
theorem clone_any (a : Option Addr) (xs : List Int) (c : Nat) (w : World) (hx : IntsAt w a xs) (hn : a = none → xs = [] ∧ c = 0) (hl : xs.length ≤ 10000000000000) :
    Calls Try.prog 38 #[.slice a xs.length c] w fun e w' => ∃ a' c', e = .returned (.slice a' xs.length c') ∧ OwnL 3 1 w.heap.size w' a' c' xs.length (xs.map (Value.int .i64)) ∧ Below w.heap.size w w' := by
  have hnil : ∀ w, (binOp .eql 25 (.slice a xs.length c) (.slice none 0 0)).run Try.prog w = .ok (.bool a.isNone) w := fun w => Lib.run_eql_slice_nil w _ _ _ _ _ _ _ Try.underlying25
  cases a with
  | none =>
    obtain ⟨rfl, rfl⟩ := hn rfl
    have hnil : ∀ w, (binOp .eql 25 (.slice none 0 0) (.slice none 0 0)).run Try.prog w = .ok (.bool true) w := fun w => Lib.run_eql_slice_nil w _ _ _ _ _ _ _ Try.underlying25
    show Calls Try.prog 38 #[.slice none 0 0] w _
    go_enter Try.func38, Try.ntmps38
    go_wp2
    go_ret
    exact ⟨none, 0, rfl, OwnL.nil _ _ _ _, Below.refl _ _⟩
  | some ad =>
    simp only [Option.isNone_some] at hnil
    go_enter Try.func38, Try.ntmps38
    go_wp2_with (at_builtin; refine wpList_app elInt rfl _ _ rfl w.heap.size _ _ _ _ rfl (OwnL.lit #[] (Nat.le_refl _) (by decide) rfl) (some ad) xs.length c _ rfl (srcNone hn) (by simp) (SrcAt.ints (hx.below (by (repeat (first | exact Below.refl _ _ | refine Below.alloc ?_ (by first | omega | (simp; done) | (simp; omega)) _ | refine Below.drew ?_ | refine Below.setCell ?_ (by first | omega | (simp; done) | (simp; omega)) _ | refine Below.trans ?_ (Below.mono (by assumption) (by first | omega | (simp; done) | (simp; omega)))))))) (fun u hu => ?c3) (by unfold maxLen; omega) (by omega) (by simp) ?_)
    case c3 => obtain ⟨z, _, rfl⟩ := List.mem_map.1 hu; rfl
    intro a' c' w' h1 h2
    go_wp2
    go_ret
    exact ⟨a', c', by simp, by simpa using h1, ((Below.refl _ _).alloc (Nat.le_refl _) _).trans h2⟩


def sharesIn (a : Acc) (d x : Int) : Bool := inR d 0 ((a.ds.length : Int) - 1) && inR x (a.ds.getD d.toNat ⟨0, 0, 0, []⟩).lo (a.ds.getD d.toNat ⟨0, 0, 0, []⟩).hi
def sharesErr (a : Acc) (d x : Int) : Int := if accErr a ≠ 0 then accErr a else if sharesIn a d x then 0 else 2
def sharesOut (a : Acc) (d x : Int) : List Int := if accErr a = 0 ∧ sharesIn a d x = true then shF a.rate a.keeps a.ds d x else []
section
variable (st rate keeps : Int) (ds : List Dis) (ad : Option Addr) (cd : Nat) (d x : Int) (w : World) (hd : DisAt w ad ds) (sm : AccSmall ⟨st, rate, keeps, ds⟩)
include hd sm
set_option maxRecDepth 100000 in
set_option maxHeartbeats 4000000 in
theorem Shares_bad (E : Int) (hE : accErr ⟨st, rate, keeps, ds⟩ = E) (hne : E ≠ 0) : Calls Try.prog 18 #[.agg #[.int .i64 st, .int .i64 rate, .int .i64 keeps, .slice ad ds.length cd], .int .i64 d, .int .i64 x] w fun e w' => e = .returned (.tuple #[.slice none 0 0, .int .i64 E]) ∧ Below w.heap.size w w' := by
  have wk := fun W (b : Below w.heap.size w W) => work_bad st rate keeps ds ad cd W E (hd.below b) sm hE hne
  have h1 : (E != 0) = true := by simpa using hne
  have h2 : (E == 0) = false := by simpa using hne
  clear hE
  go_enter Try.func18, Try.ntmps18
  go_wp2_with fail
  go_at_call 30
  refine (wk _ (by (repeat (first | exact Below.refl _ _ | refine Below.alloc ?_ (by first | omega | (simp; done) | (simp; omega)) _ | refine Below.drew ?_ | refine Below.setCell ?_ (by first | omega | (simp; done) | (simp; omega)) _ | refine Below.trans ?_ (Below.mono (by assumption) (by first | omega | (simp; done) | (simp; omega))))))).mono ?_
  rintro e w1 ⟨rfl, b1⟩
  have t1 : Below w.heap.size w w1 := by (repeat (first | exact Below.refl _ _ | refine Below.alloc ?_ (by first | omega | (simp; done) | (simp; omega)) _ | refine Below.drew ?_ | refine Below.setCell ?_ (by first | omega | (simp; done) | (simp; omega)) _ | refine Below.trans ?_ (Below.mono (by assumption) (by first | omega | (simp; done) | (simp; omega)))))
  go_wp2
  go_ret2
  exact ⟨rfl, t1⟩
set_option maxRecDepth 100000 in
set_option maxHeartbeats 4000000 in
theorem Shares_good (h0 : accErr ⟨st, rate, keeps, ds⟩ = 0) : Calls Try.prog 18 #[.agg #[.int .i64 st, .int .i64 rate, .int .i64 keeps, .slice ad ds.length cd], .int .i64 d, .int .i64 x] w fun e w' => (∃ a c, e = .returned (.tuple #[.slice a (sharesOut ⟨st, rate, keeps, ds⟩ d x).length c, .int .i64 (sharesErr ⟨st, rate, keeps, ds⟩ d x)]) ∧ IntsAt w' a (sharesOut ⟨st, rate, keeps, ds⟩ d x)) ∧ Below w.heap.size w w' := by
  have G := good_of h0
  simp only at G
  have wk := fun W (b : Below w.heap.size w W) => work_ok st rate keeps ds ad cd W (hd.below b) sm h0
  have C0 := Cells.new w #[.int .i64 st, .int .i64 rate, .int .i64 keeps, .slice ad ds.length cd] 55
  have hn6 := G.n
  have wl : IntKind.i64.wrap ((ds.length : Int) - 1) = (ds.length : Int) - 1 := IntWalk.i64_in _ (by omega)
  have hE : sharesErr ⟨st, rate, keeps, ds⟩ d x = if sharesIn ⟨st, rate, keeps, ds⟩ d x then 0 else 2 := by unfold sharesErr; rw [if_neg (by rw [h0]; simp)]
  have hO : sharesOut ⟨st, rate, keeps, ds⟩ d x = if sharesIn ⟨st, rate, keeps, ds⟩ d x = true then shF rate keeps ds d x else [] := by unfold sharesOut; simp only [h0, true_and]
  have hIn : sharesIn ⟨st, rate, keeps, ds⟩ d x = (inR d 0 ((ds.length : Int) - 1) && inR x (ds.getD d.toNat ⟨0, 0, 0, []⟩).lo (ds.getD d.toNat ⟨0, 0, 0, []⟩).hi) := rfl
  rw [hE, hO]
  clear hE hO
  obtain ⟨Z, hZ⟩ : ∃ Z, sharesIn ⟨st, rate, keeps, ds⟩ d x = Z := ⟨_, rfl⟩
  rw [hZ] at hIn ⊢
  clear hZ
  go_enter Try.func18, Try.ntmps18
  go_wp2_with fail
  go_at_call 30
  refine (wk _ (by (repeat (first | exact Below.refl _ _ | refine Below.alloc ?_ (by first | omega | (simp; done) | (simp; omega)) _ | refine Below.drew ?_ | refine Below.setCell ?_ (by first | omega | (simp; done) | (simp; omega)) _ | refine Below.trans ?_ (Below.mono (by assumption) (by first | omega | (simp; done) | (simp; omega))))))).mono ?_
  rintro e w1 ⟨⟨B, bm, rfl, lB, lb, hw, hM⟩, b1⟩
  have t1 : Below w.heap.size w w1 := by (repeat (first | exact Below.refl _ _ | refine Below.alloc ?_ (by first | omega | (simp; done) | (simp; omega)) _ | refine Below.drew ?_ | refine Below.setCell ?_ (by first | omega | (simp; done) | (simp; omega)) _ | refine Below.trans ?_ (Below.mono (by assumption) (by first | omega | (simp; done) | (simp; omega)))))
  have lb' : w.heap.size ≤ bm := by simp at lb; omega
  clear lB lb
  have C1 := C0.below b1
  have q3 := C1.cell 3
  have lq := C1.lt
  simp at q3
  have wt := within_any d 0 ((ds.length : Int) - 1)
  cases hdi : inR d 0 ((ds.length : Int) - 1)
  · rw [hdi] at wt hIn
    obtain rfl : Z = false := by rw [hIn]; rfl
    clear hIn hdi
    go_wp2_with (go_at_call 37; refine (wt _).mono ?_; rintro e w1 ⟨rfl, rfl⟩)
    go_ret2
    exact ⟨⟨none, ⟨0, rfl⟩, IntsAt.nil _ _⟩, t1⟩
  · rw [hdi] at wt hIn
    rw [inR_iff] at hdi
    obtain ⟨i, rfl⟩ : ∃ i : Nat, d = (i : Int) := ⟨d.toNat, by omega⟩
    have hi : i < ds.length := by omega
    have hiI : (i : Int) < (ds.length : Int) := by omega
    have hg : ds.getD ((i : Int)).toNat ⟨0, 0, 0, []⟩ = ds[i] := by simp [hi]
    rw [hg, Bool.true_and] at hIn
    obtain ⟨b, off, al, cl, rfl, hbl, e0, e1, e2, e3, hPa⟩ := (hd.below t1) i hi
    have hs := has_any ds[i].lo ds[i].hi x
    rw [← hIn] at hs
    have HIn := Lib.hid hIn
    have Hg := Lib.hid hg
    clear hIn hg
    go_wp2_with fail
    go_at_call 37
    refine (wt _).mono ?_
    rintro e _ ⟨rfl, rfl⟩
    go_wp2_with fail
    go_at_call 36
    refine (hs _).mono ?_
    rintro e w2 ⟨rfl, b2⟩
    have t2 := t1.trans (b2.mono t1.size)
    cases Z
    · go_wp2
      go_ret2
      exact ⟨⟨none, ⟨0, rfl⟩, IntsAt.nil _ _⟩, t2⟩
    · have hx := inR_iff.1 HIn.out.symm
      have hw3 := G.w _ (List.getElem_mem hi)
      have sh := shares_any B bm st rate keeps ds (some ⟨b, off, none⟩) cd i x 0 w2 (hw.below b2) (hd.below t2) [] (fun q e => by cases e) (hM.below b2) hi G.r G.k (by omega) (G.p _ (List.getElem_mem hi)) (by omega) (by unfold maxLen; omega)
      have hFe : shF rate keeps ds (i : Int) x = sharesF rate keeps ds[i].passed.length x := by simp [shF, hi]
      have hp5 := G.p _ (List.getElem_mem hi)
      have HFe := Lib.hid hFe
      clear hFe
      go_wp2_with fail
      go_at_call 39
      refine sh.mono ?_
      rintro e w3 ⟨⟨g, c, rfl, hI⟩, k3, M3⟩
      have hkb : Below w.heap.size w w3 := ⟨k3.grown.os.trans t2.os, k3.grown.tape.trans t2.tape, k3.grown.output.trans t2.output, Nat.le_trans t2.size k3.size, fun q hq => (k3.grown.block q (by have := t2.size; omega) (fun e => by have := Option.some.inj e; omega)).trans (t2.block q hq)⟩
      have cln := clone_any (some ⟨g, 0, none⟩) (sharesF rate keeps ds[i].passed.length x) c w3 hI (fun h => by cases h) (by rw [sharesF_len]; omega)
      rw [sharesF_len] at cln
      go_wp2_with fail
      go_at_call 38
      refine cln.mono ?_
      rintro e w4 ⟨a', c', rfl, own, b4⟩
      go_wp2
      go_ret2
      exact ⟨⟨a', ⟨c', by simp [HFe.out, sharesF_len]⟩, by simp [HFe.out]; exact own.ints.1⟩, hkb.trans (b4.mono hkb.size)⟩
end
end Go.Proofs.Ytaphfibfjepceaa

namespace Go.Proofs.Ytaphfibfjepceaa
set_option linter.unusedVariables false
set_option linter.unusedSimpArgs false
set_option linter.unnecessarySimpa false
open Go.RowKit Go.Flow Go.Shelf

theorem OwnL.keep {E : TypeId} {size base bm : Nat} {w w' : World} {a : Option Addr} {c n : Nat} {xs : List Value} (h : OwnL E size base w a c n xs) (k : Keep bm w w') : OwnL E size base w' a c n xs := by
  refine ⟨h.1, ?_⟩
  rcases h.2 with hn | ⟨g, cap, cur, hv, hbg, hg, rest⟩
  · exact .inl hn
  · refine .inr ⟨g, cap, cur, hv, hbg, ?_, rest⟩
    rw [k.grown.block g (Array.getElem?_eq_some_iff.1 hg).1 (fun e => ?_)]
    · exact hg
    · obtain ⟨es, cl, hm⟩ := k.old
      rw [← Option.some.inj e, hg] at hm
      cases hm
theorem own_block {E : TypeId} {size base bm : Nat} {w : World} {a : Option Addr} {c n : Nat} {xs : List Value} (h : OwnL E size base w a c n xs) (hm : IsMapAt w bm) : (Value.slice a n c).ownBlock ≠ some bm ∧ ∀ q, (Value.slice a n c).ownBlock = some q → base ≤ q ∧ q < w.heap.size := by
  rcases h.2 with hn | ⟨g, cap, cur, hv, hbg, hg, rest⟩
  · rw [hn.1]
    exact ⟨fun e => by simp [Value.ownBlock] at e, fun q e => by simp [Value.ownBlock] at e⟩
  · rw [hv]
    constructor
    · intro e
      have e : g = bm := by simpa [Value.ownBlock] using e
      obtain ⟨es, cl, hm⟩ := hm
      rw [← e, hg] at hm
      cases hm
    · intro q e
      have e : g = q := by simpa [Value.ownBlock] using e
      subst e
      exact ⟨hbg, (Array.getElem?_eq_some_iff.1 hg).1⟩
theorem MemoL.turn {w w' : World} {bm n : Nat} {F : Int → Int → List Int} {r r' : Option Nat} {av : List (Option Nat)} (h : MemoL w bm n F (r :: av)) (hg : w.grownBy w' r) (hb : r ≠ some bm) (ha : r' = r ∨ r' = some w.heap.size) : MemoL w' bm n F (r' :: av) := by
  obtain ⟨D, ho, hG⟩ := h
  refine ⟨D, ho.kept hg (fun e => hb e.symm), fun d x kl h1 h2 => ?_⟩
  obtain ⟨b, c, h3, h4, h5, h6⟩ := hG d x kl h1 h2
  refine ⟨b, c, h3, fun k hk => ?_, Nat.lt_of_lt_of_le h5 hg.size, ?_⟩
  · obtain ⟨b', off, e, hb', hc⟩ := h4 k hk
    cases e
    exact ⟨_, _, rfl, Nat.lt_of_lt_of_le hb' hg.size, (World.cell?_of_block (hg.block _ hb' (fun e => by rw [e] at h6; exact h6 List.mem_cons_self))).trans hc⟩
  · rcases ha with rfl | rfl
    · exact h6
    · intro e
      rcases List.mem_cons.1 e with e | e
      · have := Option.some.inj e; omega
      · exact h6 (List.mem_cons_of_mem _ e)
theorem Keep.own {bm : Nat} {A w w' : World} {r : Option Nat} (k : Keep bm A w) (hg : w.grownBy w' r) (hr : ∀ q, r = some q → A.heap.size ≤ q) (hb : r ≠ some bm) : Keep bm A w' := by
  have hm : IsMapAt w' bm := by
    obtain ⟨es, c, hm⟩ := k.new
    exact ⟨es, c, (hg.block bm (Array.getElem?_eq_some_iff.1 hm).1 (fun e => hb e.symm)).trans hm⟩
  exact ⟨⟨hg.os.trans k.grown.os, hg.tape.trans k.grown.tape, hg.output.trans k.grown.output, Nat.le_trans k.size hg.size, fun q hq hn => (hg.block q (by have := k.size; omega) (fun e => by have := hr q e.symm; omega)).trans (k.grown.block q hq hn)⟩, k.old, hm⟩
section
variable {P : Program} {t E : TypeId} {z : Value} {size bytes : Nat} {ops : Array Oper} {rest : List Oper} {o : Oper} {a : Act} {Q : Exit → Act → World → Prop}
theorem wpList_app_lit_av {W : World} {cs : Array Value} {E2 : TypeId} (el : Elem P t E z size bytes) (hgd : o.guard = none) (s x : Operand) (ho : o.op = .call { callee := .builtin .append, args := #[s, x], argTypes := #[t, t] })
    (base : Nat) (a0 : Option Addr) (n c0 : Nat) (xs : List Value) (hs : a.eval s = .slice a0 n c0) (hown : OwnL E size base W a0 c0 n xs)
    (m c : Nat) (hx : a.eval x = .slice (some ⟨W.heap.size, 0, none⟩) m c) (hl : cs.size = m * size) (h1 : ∀ u ∈ cs.toList, u.oneCell' = true)
    (h63 : n + m ≤ maxLen) (hbytes : (n + m) * bytes ≤ 140737488355328) (hbase : base ≤ W.heap.size) (hm : 0 < m)
    (h : ∀ a' c' w', OwnL E size base w' a' c' (n + m) (xs ++ cs.toList) → (W.alloc (.cells cs E2)).grownBy w' (Value.slice a0 n c0).ownBlock →
      ((Value.slice a' (n + m) c').ownBlock = (Value.slice a0 n c0).ownBlock ∨ (Value.slice a' (n + m) c').ownBlock = some (W.alloc (.cells cs E2)).heap.size) → wpList P ops Q rest (a.put o.dst (.slice a' (n + m) c')) w') :
    wpList P ops Q (o :: rest) a (W.alloc (.cells cs E2)) := by
  obtain ⟨i, hi, hz0, hz1, hz2⟩ := el.info
  refine wpList_append_own_at _ hgd s x t ho base E i z size bytes el.slice hi hz0 hz1 hz2 el.cells el.pos (.slice a0 n c0) n xs hs (hown.alloc _) ⟨W.heap.size, 0, none⟩ m c cs.toList hx (by simpa using hl) ?_ h1 h63 hbytes (by simp; omega) ?_
  · intro j u hu
    rw [addr_add, World.cell?_alloc_at _ _ _ _ rfl, Nat.zero_add]
    simpa using hu
  · intro v' w' h2 h3 h4 h5
    have hv : ∃ a' c', v' = .slice a' (n + m) c' := by
      rcases h2.2 with ⟨rfl, hnm⟩ | ⟨g, cap, cur, rfl, _⟩
      · omega
      · exact ⟨_, _, rfl⟩
    obtain ⟨a', c', rfl⟩ := hv
    exact h a' c' w' h2 h3 h5
end
end Go.Proofs.Ytaphfibfjepceaa

namespace Go.Proofs.Ytaphfibfjepceaa
set_option linter.unusedVariables false
set_option linter.unusedSimpArgs false
set_option linter.unnecessarySimpa false
open Go.RowKit Go.Flow Go.Shelf

/-- All numbers of a list are words of the dispatches. -/
def wordsB (ds : List Dis) (t : List Int) : Bool := (List.range t.length).all fun k => inR (t.getD k 0) (ds.getD k ⟨0, 0, 0, []⟩).lo (ds.getD k ⟨0, 0, 0, []⟩).hi
def isTruth (ds : List Dis) (t : List Int) : Bool := decide (t.length = ds.length) && wordsB ds t
def balL (rate keeps : Int) (ds : List Dis) (t : List Int) (m : Nat) : List Int := (List.range m).map fun (s : Nat) => balN rate keeps ds t (s : Int) t.length
theorem balL_succ (rate keeps : Int) (ds : List Dis) (t : List Int) (m : Nat) : balL rate keeps ds t (m + 1) = balL rate keeps ds t m ++ [balN rate keeps ds t (m : Int) t.length] := by simp [balL, List.range_succ]
def balErr (a : Acc) (t : List Int) : Int := if accErr a ≠ 0 then accErr a else if isTruth a.ds t then 0 else 2
def balOut (a : Acc) (t : List Int) : List Int := if accErr a = 0 ∧ isTruth a.ds t = true then balL a.rate a.keeps a.ds t a.st.toNat else []
theorem words_drop (ds : List Dis) (t : List Int) {k : Nat} (hk : k < t.length) : ((List.range t.length).drop k).all (fun k => inR (t.getD k 0) (ds.getD k ⟨0, 0, 0, []⟩).lo (ds.getD k ⟨0, 0, 0, []⟩).hi) = (inR t[k] (ds.getD k ⟨0, 0, 0, []⟩).lo (ds.getD k ⟨0, 0, 0, []⟩).hi && ((List.range t.length).drop (k + 1)).all (fun k => inR (t.getD k 0) (ds.getD k ⟨0, 0, 0, []⟩).lo (ds.getD k ⟨0, 0, 0, []⟩).hi)) := by
  rw [List.drop_eq_getElem_cons (show k < (List.range t.length).length by simpa using hk), List.all_cons]
  simp [hk]
section
variable (st rate keeps : Int) (ds : List Dis) (ad : Option Addr) (cd : Nat) (at_ : Option Addr) (t : List Int) (ct : Nat) (w : World) (hd : DisAt w ad ds) (sm : AccSmall ⟨st, rate, keeps, ds⟩) (ht : IntsAt w at_ t) (lt : t.length ≤ 1000)
include hd sm ht lt
set_option maxRecDepth 100000 in
set_option maxHeartbeats 4000000 in
omit ht lt in
theorem Balance_bad (E : Int) (hE : accErr ⟨st, rate, keeps, ds⟩ = E) (hne : E ≠ 0) : Calls Try.prog 17 #[.agg #[.int .i64 st, .int .i64 rate, .int .i64 keeps, .slice ad ds.length cd], .slice at_ t.length ct] w fun e w' => e = .returned (.tuple #[.slice none 0 0, .int .i64 E]) ∧ Below w.heap.size w w' := by
  have wk := fun W (b : Below w.heap.size w W) => work_bad st rate keeps ds ad cd W E (hd.below b) sm hE hne
  have h1 : (E != 0) = true := by simpa using hne
  have h2 : (E == 0) = false := by simpa using hne
  clear hE
  go_enter Try.func17, Try.ntmps17
  go_wp2_with fail
  go_at_call 30
  refine (wk _ (by (repeat (first | exact Below.refl _ _ | refine Below.alloc ?_ (by first | omega | (simp; done) | (simp; omega)) _ | refine Below.drew ?_ | refine Below.setCell ?_ (by first | omega | (simp; done) | (simp; omega)) _ | refine Below.trans ?_ (Below.mono (by assumption) (by first | omega | (simp; done) | (simp; omega))))))).mono ?_
  rintro e w1 ⟨rfl, b1⟩
  have t1 : Below w.heap.size w w1 := by (repeat (first | exact Below.refl _ _ | refine Below.alloc ?_ (by first | omega | (simp; done) | (simp; omega)) _ | refine Below.drew ?_ | refine Below.setCell ?_ (by first | omega | (simp; done) | (simp; omega)) _ | refine Below.trans ?_ (Below.mono (by assumption) (by first | omega | (simp; done) | (simp; omega)))))
  go_wp2
  go_ret2
  exact ⟨rfl, t1⟩
set_option maxRecDepth 100000 in
set_option maxHeartbeats 4000000 in
theorem Balance_good (h0 : accErr ⟨st, rate, keeps, ds⟩ = 0) : Calls Try.prog 17 #[.agg #[.int .i64 st, .int .i64 rate, .int .i64 keeps, .slice ad ds.length cd], .slice at_ t.length ct] w fun e w' => (∃ a c, e = .returned (.tuple #[.slice a (balOut ⟨st, rate, keeps, ds⟩ t).length c, .int .i64 (balErr ⟨st, rate, keeps, ds⟩ t)]) ∧ IntsAt w' a (balOut ⟨st, rate, keeps, ds⟩ t)) ∧ Below w.heap.size w w' := by
  have G := good_of h0
  simp only at G
  have hst := (accErr_ok h0).st
  simp only at hst
  have wk := fun W (b : Below w.heap.size w W) => work_ok st rate keeps ds ad cd W (hd.below b) sm h0
  have C0 := Cells.new w #[.int .i64 st, .int .i64 rate, .int .i64 keeps, .slice ad ds.length cd] 55
  have hn6 := G.n
  have hE : balErr ⟨st, rate, keeps, ds⟩ t = if isTruth ds t then 0 else 2 := by unfold balErr; rw [if_neg (by rw [h0]; simp)]
  have hO : balOut ⟨st, rate, keeps, ds⟩ t = if isTruth ds t = true then balL rate keeps ds t st.toNat else [] := by unfold balOut; simp only [h0, true_and]
  have hIn : isTruth ds t = (decide (t.length = ds.length) && wordsB ds t) := rfl
  obtain ⟨E, hEE⟩ : ∃ E, balErr ⟨st, rate, keeps, ds⟩ t = E := ⟨_, rfl⟩
  obtain ⟨O, hOO⟩ : ∃ O, balOut ⟨st, rate, keeps, ds⟩ t = O := ⟨_, rfl⟩
  rw [hEE] at hE ⊢
  rw [hOO] at hO ⊢
  have HE := Lib.hid hE
  have HO := Lib.hid hO
  have HIn := Lib.hid hIn
  clear hE hO hEE hOO hIn
  go_enter Try.func17, Try.ntmps17
  go_wp2_with fail
  go_at_call 30
  refine (wk _ (by (repeat (first | exact Below.refl _ _ | refine Below.alloc ?_ (by first | omega | (simp; done) | (simp; omega)) _ | refine Below.drew ?_ | refine Below.setCell ?_ (by first | omega | (simp; done) | (simp; omega)) _ | refine Below.trans ?_ (Below.mono (by assumption) (by first | omega | (simp; done) | (simp; omega))))))).mono ?_
  rintro e w1 ⟨⟨B, bm, rfl, lB, lb, hw, hM⟩, b1⟩
  have t1 : Below w.heap.size w w1 := by (repeat (first | exact Below.refl _ _ | refine Below.alloc ?_ (by first | omega | (simp; done) | (simp; omega)) _ | refine Below.drew ?_ | refine Below.setCell ?_ (by first | omega | (simp; done) | (simp; omega)) _ | refine Below.trans ?_ (Below.mono (by assumption) (by first | omega | (simp; done) | (simp; omega)))))
  have lb' : w.heap.size ≤ bm := by simp at lb; omega
  clear lB lb wk
  have C1 := C0.below b1
  have q3 := C1.cell 3
  have lq := C1.lt
  simp at q3
  by_cases hlen : t.length = ds.length
  · have hne : ((t.length : Int) != (ds.length : Int)) = false := by simp [hlen]
    have Hlen := Lib.hid hlen
    clear hlen
    go_wp2
    go_loopw [8, 9, 28] (fun _ _ j wr => ∃ k : Nat, k ≤ t.length ∧ j = .int .i64 k ∧ Below w1.heap.size w1 wr ∧ wordsB ds t = ((List.range t.length).drop k).all (fun k => inR (t.getD k 0) (ds.getD k ⟨0, 0, 0, []⟩).lo (ds.getD k ⟨0, 0, 0, []⟩).hi)) (fun _ _ j _ => t.length - (intOf j).toNat)
    case atStart => exact ⟨0, Nat.zero_le _, rfl, Below.refl _ _, by simp [wordsB]⟩
    case round =>
      obtain ⟨k, hk, rfl, hb, hi⟩ := hrel
      have Hi := Lib.hid hi
      clear hi
      have tk := t1.trans (hb.mono t1.size)
      by_cases hlt : k < t.length
      · have hkd : k < ds.length := by have := Hlen.out; omega
        have hkI : (k : Int) < (t.length : Int) := by omega
        have hkI2 : (k : Int) < (ds.length : Int) := by omega
        have hdr := words_drop ds t hlt
        have e1 : ds.getD k ⟨0, 0, 0, []⟩ = ds[k] := by simp [hkd]
        rw [e1] at hdr
        obtain ⟨b, off, rfl, hbl, hc⟩ := (ht.below tk) k hlt
        obtain ⟨bd, od, al, cl, rfl, hbd, d0, d1, d2, d3, hPa⟩ := (hd.below tk) k hkd
        replace hc : wr.cell? ⟨b, off + k, none⟩ = some (.int .i64 t[k]) := hc.trans (by simp [hlt])
        obtain ⟨x, hx⟩ : ∃ x, t[k] = x := ⟨_, rfl⟩
        rw [hx] at hc hdr
        have hs := has_any ds[k].lo ds[k].hi x
        obtain ⟨V, hV⟩ : ∃ V, inR x ds[k].lo ds[k].hi = V := ⟨_, rfl⟩
        rw [hV] at hs hdr
        have Hdr := Lib.hid hdr
        have q3' := below_cell hb q3
        have lq' := Nat.lt_of_lt_of_le lq hb.size
        clear hdr hx hV e1
        go_wp2_with fail
        go_at_call 36
        refine (hs _).mono ?_
        rintro e w2 ⟨rfl, b2⟩
        have b12 := hb.trans (b2.mono hb.size)
        cases V
        · go_wp2
          have hZ : isTruth ds t = false := by rw [HIn.out, Hi.out, Hdr.out]; simp
          obtain rfl : E = 2 := by rw [HE.out, hZ]; rfl
          obtain rfl : O = [] := by rw [HO.out, hZ]; rfl
          clear hZ
          go_ret2
          exact ⟨⟨none, 0, rfl, IntsAt.nil _ _⟩, t1.trans (b12.mono t1.size)⟩
        · go_wp2
          go_roundw
          case rel => exact ⟨k + 1, by omega, by go_num, b12, by rw [Hi.out, Hdr.out, Bool.true_and]⟩
          case measure => simp [intOf]; omega
      · obtain rfl : k = t.length := by omega
        have hwB : wordsB ds t = true := by rw [Hi.out, List.drop_of_length_le (by simp)]; rfl
        have hZ : isTruth ds t = true := by rw [HIn.out, hwB]; simp [Hlen.out]
        obtain rfl : E = 0 := by rw [HE.out, hZ]; rfl
        have hOb : O = balL rate keeps ds t st.toNat := by rw [HO.out, hZ]; rfl
        have HOb := Lib.hid hOb
        clear hZ hOb HE HO
        have hx : ∀ x ∈ t, 1 ≤ x ∧ x ≤ 200 := fun x hx => by
          obtain ⟨j, hj, rfl⟩ := List.getElem_of_mem hx
          have h1 := List.all_eq_true.1 hwB j (by simpa using hj)
          have hjd : j < ds.length := by have := Hlen.out; omega
          rw [show t.getD j 0 = t[j] by simp [hj], show ds.getD j ⟨0, 0, 0, []⟩ = ds[j] by simp [hjd], inR_iff] at h1
          have := G.w _ (List.getElem_mem hjd)
          omega
        obtain ⟨m, hm⟩ : ∃ m : Nat, st = (m : Int) := ⟨st.toNat, by omega⟩
        subst hm
        have q0 := (C1.below hb).cell 0
        have lq0 := (C1.below hb).lt
        simp at q0
        have hwk := hw.below hb
        have hdk := hd.below tk
        have htk := ht.below tk
        have hMk := hM.below hb
        have HwB := Lib.hid hwB
        clear hwB Hi HIn
        go_wp2
        go_loopw [10, 11, 45] (fun u _ j X => ∃ (s : Nat) (ao : Option Addr) (co : Nat), s ≤ m ∧ j = .int .i64 s ∧ u = .slice ao s co ∧ OwnL 3 1 wr.heap.size X ao co s ((balL rate keeps ds t s).map (Value.int .i64)) ∧ Keep bm wr X ∧ MemoL X bm (s * t.length) (shF rate keeps ds) [(Value.slice ao s co).ownBlock]) (fun _ _ j _ => m - (intOf j).toNat)
        case atStart => exact ⟨0, none, 0, Nat.zero_le _, rfl, rfl, (OwnL.nil _ _ _ _ : OwnL 3 1 wr.heap.size wr none 0 0 []), Keep.refl hMk.isMap, by have := hMk.avoid (av' := [(Value.slice none 0 0).ownBlock]) (fun q e => by simp [Value.ownBlock] at e); simpa using this⟩
        case round =>
          obtain ⟨s, ao, co, hs, rfl, rfl, own, kp, hMs⟩ := hrel
          rename World => X
          have hob := own_block own hMs.isMap
          by_cases hlt2 : s < m
          · have hsI : (s : Int) < (m : Int) := by omega
            have hlt6 : t.length ≤ 6 := by have := Hlen.out; omega
            have hsm : s * t.length + 6 < maxLen := by
              have : s * t.length ≤ 7 * 6 := Nat.mul_le_mul (by omega) hlt6
              unfold maxLen; omega
            have bal := balance_any B bm (m : Int) rate keeps ds ad cd at_ t ct (s : Int) (s * t.length) X (hwk.keep kp) (hdk.keep kp) [(Value.slice ao s co).ownBlock] (fun q e => (hob.2 q (List.mem_singleton.1 e).symm).2) hMs G (htk.keep kp) hx (by have := Hlen.out; omega) hsm
            obtain ⟨v, hv⟩ : ∃ v, balN rate keeps ds t (s : Int) t.length = v := ⟨_, rfl⟩
            have hsu := balL_succ rate keeps ds t s
            rw [hv] at bal hsu
            have Hsu := Lib.hid hsu
            have Hob := Lib.hid hob
            have Hx := Lib.hid hx
            have Hsm := Lib.hid hsm
            clear hsu hv hob hx hsm
            go_wp2_with fail
            go_at_call 33
            refine bal.mono ?_
            rintro e X2 ⟨rfl, k2, M2⟩
            have own2 := own.keep k2
            have kp2 := kp.trans k2
            go_wp2_with (at_builtin; refine wpList_app_lit_av elInt rfl _ _ rfl wr.heap.size ao s co _ rfl own2 1 1 rfl rfl (fun u hu => by simp at hu; subst hu; rfl) (by unfold maxLen; omega) (by omega) kp2.size (by omega) ?_; intro a9 c9 X3 own3 hg3 hv3)
            have bl : Below X2.heap.size X2 (X2.alloc (.cells #[.int .i64 v] 3)) := (Below.refl _ _).alloc (Nat.le_refl _) _
            have M3 := (M2.below bl).turn hg3 (own_block own2 M2.isMap).1 hv3
            have kp3 := (kp2.below bl).own hg3 (fun q e => ((own_block own2 M2.isMap).2 q e).1) (own_block own2 M2.isMap).1
            go_wp2
            go_roundw
            case rel => exact ⟨s + 1, a9, c9, by omega, by go_num, rfl, by rw [Hsu.out, List.map_append]; exact own3, kp3, by rw [Nat.succ_mul]; exact M3⟩
            case measure => simp [intOf]; omega
          · obtain rfl : s = m := by omega
            have hbl : (balL rate keeps ds t s).length = s := by simp [balL]
            have i9 := own.ints.1
            have hkb : Below w.heap.size w X := ⟨kp.grown.os.trans tk.os, kp.grown.tape.trans tk.tape, kp.grown.output.trans tk.output, Nat.le_trans tk.size kp.size, fun q hq => (kp.grown.block q (by have := tk.size; omega) (fun e => by have := Option.some.inj e; omega)).trans (tk.block q hq)⟩
            have hOs : O = balL rate keeps ds t s := HOb.out
            subst hOs
            have Hbl := Lib.hid hbl
            clear hbl
            go_wp2
            go_ret2
            exact ⟨⟨ao, co, by rw [Hbl.out]; rfl, i9⟩, hkb⟩
  · have hne : ((t.length : Int) != (ds.length : Int)) = true := by simp; omega
    have hZ : isTruth ds t = false := by rw [HIn.out]; simp [hlen]
    obtain rfl : E = 2 := by rw [HE.out, hZ]; rfl
    obtain rfl : O = [] := by rw [HO.out, hZ]; rfl
    clear hZ
    go_wp2
    go_ret2
    exact ⟨⟨none, 0, rfl, IntsAt.nil _ _⟩, t1⟩
end
end Go.Proofs.Ytaphfibfjepceaa
