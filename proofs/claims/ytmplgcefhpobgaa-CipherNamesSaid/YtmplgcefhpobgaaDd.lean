/- cipher: the law's conversions · cipher: the examples · cipher: awake · cipher: the reference's Code -/
import Derived.Test.YtmplgcefhpobgaaDa
import Derived.Test.YtmplgcefhpobgaaFlo
namespace Go.Proofs.Ytmplgcefhpobgaa
set_option linter.unusedVariables false
set_option linter.unusedSimpArgs false
set_option linter.unnecessarySimpa false
open Go.RowKit Go.Flow

theorem keyConv_any (m a st : Int) (w : World) :
    Calls Try.prog 55 #[.agg #[.int .i64 m, .int .i64 a, .int .i64 st]] w fun e w' => e = .returned (.agg #[.int .i64 m, .int .i64 a, .int .i64 st]) ∧ Below w.heap.size w w' := by
  go_enter Try.func55, Try.ntmps55
  go_wp2
  exact bodyPost_ret (v := .agg #[.int .i64 m, .int .i64 a, .int .i64 st]) (by simp [results, Try.results55, go_sem]) rfl ⟨rfl, by (repeat (first | exact Below.refl _ _ | refine Below.alloc ?_ (by first | omega | (simp; done) | (simp; omega)) _ | refine Below.drew ?_ | refine Below.setCell ?_ (by first | omega | (simp; done) | (simp; omega)) _ | refine Below.trans ?_ (Below.mono (by assumption) (by first | omega | (simp; done) | (simp; omega)))))⟩

theorem fault_any (s wo : Int) (ak : Option Addr) (ks : List (Int × Int × Int)) (ck : Nat) (ad : Option Addr) (ds : List Int) (cd : Nat) (w : World) (hk : Recs3At w ak ks) (hd : IntsAt w ad ds) (lk : ks.length ≤ 1000) (ld : ds.length ≤ 1000) :
    Calls Try.prog 22 #[.agg #[.int .i64 s, .int .i64 wo, .slice ak ks.length ck, .slice ad ds.length cd]] w fun e w' => e = .returned (.int .i64 (bookErr s wo ks ds)) ∧ Below w.heap.size w w' := by
  have hb : bookErr s wo ks ds = 0 ∨ bookErr s wo ks ds = 1 ∨ bookErr s wo ks ds = 3 := by
    unfold bookErr; split
    · simp
    · split <;> simp
  have x0 : 0 ≤ bookErr s wo ks ds := by omega
  have x1 : bookErr s wo ks ds ≤ 3 := by omega
  clear hb
  go_enter Try.func22, Try.ntmps22
  go_wp2_with (go_at_call 62; refine (refFault_any s wo ak ks ck ad ds cd _ (hk.below (by (repeat (first | exact Below.refl _ _ | refine Below.alloc ?_ (by first | omega | (simp; done) | (simp; omega)) _ | refine Below.drew ?_ | refine Below.setCell ?_ (by first | omega | (simp; done) | (simp; omega)) _ | refine Below.trans ?_ (Below.mono (by assumption) (by first | omega | (simp; done) | (simp; omega))))))) (hd.below (by (repeat (first | exact Below.refl _ _ | refine Below.alloc ?_ (by first | omega | (simp; done) | (simp; omega)) _ | refine Below.drew ?_ | refine Below.setCell ?_ (by first | omega | (simp; done) | (simp; omega)) _ | refine Below.trans ?_ (Below.mono (by assumption) (by first | omega | (simp; done) | (simp; omega))))))) lk ld).mono ?_; rintro e w1 ⟨rfl, hb1⟩; obtain ⟨hc1, hf1, hz1⟩ := bcell hb1; (try simp at hz1); (try (have hy0 : w.heap.size < w1.heap.size := by omega)); (try (have hy1 : w.heap.size + 1 < w1.heap.size := by omega)); (try (have hy2 : w.heap.size + 2 < w1.heap.size := by omega)))
  go_ret
  exact ⟨rfl, by (repeat (first | exact Below.refl _ _ | refine Below.alloc ?_ (by first | omega | (simp; done) | (simp; omega)) _ | refine Below.drew ?_ | refine Below.setCell ?_ (by first | omega | (simp; done) | (simp; omega)) _ | refine Below.trans ?_ (Below.mono (by assumption) (by first | omega | (simp; done) | (simp; omega)))))⟩

theorem thin_any (s wo : Int) (ak : Option Addr) (nk ck : Nat) (ad : Option Addr) (nd cd : Nat) (w : World) :
    Calls Try.prog 16 #[.agg #[.int .i64 s, .int .i64 wo, .slice ak nk ck, .slice ad nd cd]] w fun e w' => e = .returned (.bool (decide (nk ≤ 8) && decide (nd ≤ 11))) ∧ Below w.heap.size w w' := by
  by_cases h : (nk : Int) ≤ 8
  · have h1 : decide ((nk : Int) ≤ 8) = true := by simpa using h
    have e1 : decide (nk ≤ 8) = true := by simp; omega
    go_enter Try.func16, Try.ntmps16
    go_wp2
    go_ret
    have e2 : decide ((nd : Int) ≤ 11) = decide (nd ≤ 11) := by rw [decide_eq_decide]; omega
    refine ⟨by first | rfl | (rw [e1]; simp [← e2]), by (repeat (first | exact Below.refl _ _ | refine Below.alloc ?_ (by first | omega | (simp; done) | (simp; omega)) _ | refine Below.drew ?_ | refine Below.setCell ?_ (by first | omega | (simp; done) | (simp; omega)) _ | refine Below.trans ?_ (Below.mono (by assumption) (by first | omega | (simp; done) | (simp; omega)))))⟩
  · have h1 : decide ((nk : Int) ≤ 8) = false := by simpa using h
    have e1 : decide (nk ≤ 8) = false := by simp; omega
    go_enter Try.func16, Try.ntmps16
    go_wp2
    go_ret
    refine ⟨by first | rfl | (rw [e1]; rfl), by (repeat (first | exact Below.refl _ _ | refine Below.alloc ?_ (by first | omega | (simp; done) | (simp; omega)) _ | refine Below.drew ?_ | refine Below.setCell ?_ (by first | omega | (simp; done) | (simp; omega)) _ | refine Below.trans ?_ (Below.mono (by assumption) (by first | omega | (simp; done) | (simp; omega)))))⟩

theorem info_key : (Try.prog.info? 91).map (fun i => (i.zero, i.size, i.bytes)) = some (some (.agg #[.int .i64 0, .int .i64 0, .int .i64 0]), 3, 24) := by kernel_rfl
theorem elKey : Elem Try.prog 30 91 (.agg #[.int .i64 0, .int .i64 0, .int .i64 0]) 3 24 := ⟨Try.underlying30, info_parts info_key, rfl, by decide⟩

def flat3 (xs : List K3) : List Value := xs.flatMap fun x => [.int .i64 x.1, .int .i64 x.2.1, .int .i64 x.2.2]
theorem flat3_get : ∀ (xs : List K3) (k : Nat) (h : k < xs.length), (flat3 xs)[k * 3]? = some (.int .i64 xs[k].1) ∧ (flat3 xs)[k * 3 + 1]? = some (.int .i64 xs[k].2.1) ∧ (flat3 xs)[k * 3 + 2]? = some (.int .i64 xs[k].2.2)
  | x :: xs, 0, _ => by simp [flat3]
  | x :: xs, k + 1, h => by
    obtain ⟨a, b, c⟩ := flat3_get xs k (by simpa using h)
    have e : flat3 (x :: xs) = .int .i64 x.1 :: .int .i64 x.2.1 :: .int .i64 x.2.2 :: flat3 xs := by simp [flat3]
    rw [e, show (k + 1) * 3 = k * 3 + 3 by omega]
    exact ⟨a, b, c⟩
theorem flat3_snoc (xs : List K3) (x : K3) : flat3 (xs ++ [x]) = flat3 xs ++ [.int .i64 x.1, .int .i64 x.2.1, .int .i64 x.2.2] := by simp [flat3]
theorem OwnL.recs3 {T : TypeId} {base : Nat} {w : World} {a : Option Addr} {c n : Nat} {xs : List K3} (h : OwnL T 3 base w a c n (flat3 xs)) : Recs3At w a xs := fun k hk => by
  rcases h.form with ⟨_, _, _, h4⟩ | ⟨g, rfl, _, hlt, _, _, _, hc⟩
  · have := (flat3_get xs k hk).1; rw [h4] at this; simp at this
  · obtain ⟨e0, e1, e2⟩ := flat3_get xs k hk
    exact ⟨g, 0, rfl, hlt, by rw [Nat.zero_add]; exact hc _ _ e0, by rw [Nat.zero_add]; exact hc _ _ e1, by rw [Nat.zero_add]; exact hc _ _ e2⟩

def RetBook (B : Nat) (s wo : Int) (ks : List K3) (ds : List Int) (e : Ending) (w' : World) : Prop := ∃ ak ck ad cd, e = .returned (.agg #[.int .i64 s, .int .i64 wo, .slice ak ks.length ck, .slice ad ds.length cd]) ∧ OwnL 91 3 B w' ak ck ks.length (flat3 ks) ∧ OwnL 3 1 B w' ad cd ds.length (ds.map (Value.int .i64))

theorem cell_alloc_old (w : World) (o : Obj) (a : Addr) (h : a.block < w.heap.size) : (w.alloc o).cell? a = w.cell? a := ((Below.refl w.heap.size w).alloc (Nat.le_refl _) o).cell h
theorem ck_alloc {w : World} {o : Obj} {a : Addr} {v : Value} (h : w.cell? a = some v) : (w.alloc o).cell? a = some v := below_cell ((Below.refl w.heap.size w).alloc (Nat.le_refl _) o) h
theorem ck_drew {w : World} {a : Addr} {v : Value} (h : w.cell? a = some v) : w.drew.cell? a = some v := h
theorem ck_set {w : World} {p a : Addr} {u v : Value} (hne : a.block ≠ p.block) (h : w.cell? a = some v) : (w.setCell p u).cell? a = some v := by
  rw [World.cell?_setCell_other _ _ _ _ (fun e => hne (by rw [e]))]; exact h
/-- A block of cells, known whole. -/
def Cells (w : World) (g : Nat) (cs : Array Value) (T : TypeId) : Prop := w.heap[g]? = some (.cells cs T (0, 0))
theorem Cells.lt {w : World} {g : Nat} {cs : Array Value} {T : TypeId} (h : Cells w g cs T) : g < w.heap.size := (Array.getElem?_eq_some_iff.1 h).1
theorem Cells.cell {w : World} {g : Nat} {cs : Array Value} {T : TypeId} (h : Cells w g cs T) (k : Nat) : w.cell? ⟨g, k, none⟩ = cs[k]? := by simp [World.cell?, show w.heap[g]? = _ from h]
theorem Cells.frozen {w : World} {g : Nat} {cs : Array Value} {T : TypeId} (h : Cells w g cs T) (k : Nat) : w.frozen? ⟨g, k, none⟩ = false := by simp [World.frozen?, show w.heap[g]? = _ from h]
theorem Cells.new (w : World) (cs : Array Value) (T : TypeId) : Cells (w.alloc (.cells cs T)) w.heap.size cs T := World.alloc_heap_new w _
theorem Cells.below {w w' : World} {g : Nat} {cs : Array Value} {T : TypeId} (h : Cells w g cs T) (hb : Below w.heap.size w w') : Cells w' g cs T := (hb.block g h.lt).trans h
theorem Cells.set {w : World} {g : Nat} {cs : Array Value} {T : TypeId} (h : Cells w g cs T) (k : Nat) (v : Value) : Cells (w.setCell ⟨g, k, none⟩ v) g (cs.setIfInBounds k v) T := by
  obtain ⟨hlt, hk⟩ := Array.getElem?_eq_some_iff.1 h
  show (w.heap.modify g _)[g]? = _
  rw [Array.getElem?_eq_getElem (by rw [Array.size_modify]; exact hlt), Array.getElem_modify_self, hk]
  rfl
theorem Cells.grown {w w' : World} {row : Option Nat} {g : Nat} {cs : Array Value} {T : TypeId} (h : Cells w g cs T) (hg : w.grownBy w' row) (hne : some g ≠ row) : Cells w' g cs T := (hg.block g h.lt hne).trans h
theorem Cells.not_row {w : World} {g : Nat} {cs : Array Value} {T : TypeId} (h : Cells w g cs T) {E : TypeId} (hte : T ≠ E) {size base n c : Nat} {a : Option Addr} {xs : List Value} (hr : OwnL E size base w a c n xs) : some g ≠ (Value.slice a n c).ownBlock := by
  rcases hr.2 with ⟨h1, _⟩ | ⟨g', cap, cur, h1, _, hgb, _⟩
  · rw [h1]; simp [Value.ownBlock]
  · rw [h1]
    intro e'
    obtain rfl : g = g' := by simpa [Value.ownBlock] using e'
    have := (show w.heap[g]? = _ from h).symm.trans hgb
    simp at this
    exact hte this.2

theorem Cells.src {w : World} {g : Nat} {cs : Array Value} {T : TypeId} (h : Cells w g cs T) : SrcAt w (some ⟨g, 0, none⟩) cs.toList := fun j u hu => ⟨g, 0, rfl, by rw [Nat.zero_add, h.cell]; simpa using hu⟩
/-- a pointer to a new block -/
def PtrV (B : Nat) (cs : Array Value) (T : TypeId) (v : Value) (w : World) : Prop := ∃ g, v = .pointer (some ⟨g, 0, none⟩) ∧ B ≤ g ∧ Cells w g cs T
theorem PtrV.kept {B : Nat} {cs : Array Value} {T : TypeId} {v : Value} {w w' : World} (h : PtrV B cs T v w) (hb : Below w.heap.size w w') : PtrV B cs T v w' := let ⟨g, h1, h2, h3⟩ := h; ⟨g, h1, h2, h3.below hb⟩
/-- a literal slice in a new block -/
def LitV (B n : Nat) (cs : Array Value) (T : TypeId) (v : Value) (w : World) : Prop := ∃ g, v = .slice (some ⟨g, 0, none⟩) n n ∧ B ≤ g ∧ Cells w g cs T
theorem LitV.kept {B n : Nat} {cs : Array Value} {T : TypeId} {v : Value} {w w' : World} (h : LitV B n cs T v w) (hb : Below w.heap.size w w') : LitV B n cs T v w' := let ⟨g, h1, h2, h3⟩ := h; ⟨g, h1, h2, h3.below hb⟩

theorem OwnL.moved {E : TypeId} {size base : Nat} {w w' : World} {a : Option Addr} {c n : Nat} {xs : List Value} {g : Nat} (h : OwnL E size base w a c n xs) (hz : w.heap.size ≤ w'.heap.size) (hb : ∀ b, b ≠ g → w'.heap[b]? = w.heap[b]?) (hne : some g ≠ (Value.slice a n c).ownBlock) : OwnL E size base w' a c n xs := by
  refine ⟨h.1, ?_⟩
  rcases h.2 with hn | ⟨g', cap, cur, hv, hbg, hg, rest⟩
  · exact .inl hn
  · refine .inr ⟨g', cap, cur, hv, hbg, ?_, rest⟩
    rw [hb g' (fun e => hne (by rw [hv, e]; rfl))]
    exact hg
section
variable {P : Program} {t E : TypeId} {z : Value} {size bytes : Nat} {w : World} {ops : Array Oper} {rest : List Oper} {o : Oper} {a : Act} {Q : Exit → Act → World → Prop}
/-- 'append': nothing turns but the list's own row. -/
theorem wpList_app_g (el : Elem P t E z size bytes) (hgd : o.guard = none) (s x : Operand) (ho : o.op = .call { callee := .builtin .append, args := #[s, x], argTypes := #[t, t] })
    (base : Nat) (a0 : Option Addr) (n c0 : Nat) (xs : List Value) (hs : a.eval s = .slice a0 n c0) (hown : OwnL E size base w a0 c0 n xs)
    (ao : Option Addr) (m c : Nat) (news : List Value) (hx : a.eval x = .slice ao m c) (hnone : ao = none → m = 0 ∧ c = 0) (hl : news.length = m * size) (hsrc : SrcAt w ao news) (h1 : ∀ u ∈ news, u.oneCell' = true)
    (h63 : n + m ≤ maxLen) (hbytes : (n + m) * bytes ≤ 140737488355328) (hbase : base ≤ w.heap.size)
    (h : ∀ a' c' w', OwnL E size base w' a' c' (n + m) (xs ++ news) → Below base w w' → w.grownBy w' (Value.slice a0 n c0).ownBlock → wpList P ops Q rest (a.put o.dst (.slice a' (n + m) c')) w') : wpList P ops Q (o :: rest) a w := by
  obtain ⟨i, hi, hz0, hz1, hz2⟩ := el.info
  cases ao with
  | none =>
    obtain ⟨rfl, rfl⟩ := hnone rfl
    have hn0 : news = [] := List.eq_nil_of_length_eq_zero (by simpa using hl)
    subst hn0
    refine wpList_plain hgd fun K hK => ?_
    have hrun := run_append_owned_none (P := P) (w := w) base t o.type E i size el.slice hi _ n xs hown
    unfold Oper.wp
    simp only [execOp, ho, resolve, invoke, builtin, Sem.run_bind, Sem.run_pure, Result.andThen_ok, List.map_toArray, List.map_cons, List.map_nil, hs, hx, hrun]
    exact hK _ _ (h a0 c0 w (by simpa using hown) (Below.refl _ _) (World.grownBy.refl _ _))
  | some ad =>
    have hnews : ∀ j u, news[j]? = some u → w.cell? (ad.add j) = some u := fun j u hu => by
      obtain ⟨b, off, ha, hc⟩ := hsrc j u hu
      obtain rfl := Option.some.inj ha
      rw [addr_add]; exact hc
    refine wpList_append_own w hgd s x t ho base E i z size bytes el.slice hi hz0 hz1 hz2 el.cells el.pos (.slice a0 n c0) n xs hs hown ad m c news hx hl hnews h1 h63 hbytes hbase ?_
    intro v' w' h2 h3 h4
    have hv : ∃ a' c', v' = .slice a' (n + m) c' := by
      rcases h2.2 with ⟨rfl, hnm⟩ | ⟨g, cap, cur, rfl, _⟩
      · exact ⟨none, 0, by rw [hnm]⟩
      · exact ⟨_, _, rfl⟩
    obtain ⟨a', c', rfl⟩ := hv
    exact h a' c' w' h2 (below_of_grown hown hbase h3) h3
end
theorem OwnL.grown {E : TypeId} {size base : Nat} {w w' : World} {a : Option Addr} {c n : Nat} {xs : List Value} {row : Option Nat} (h : OwnL E size base w a c n xs) (hg : w.grownBy w' row) (hne : ∀ g, row = some g → (Value.slice a n c).ownBlock ≠ some g) : OwnL E size base w' a c n xs := by
  refine ⟨h.1, ?_⟩
  rcases h.2 with hn | ⟨g', cap, cur, hv, hbg, hg', rest⟩
  · exact .inl hn
  · refine .inr ⟨g', cap, cur, hv, hbg, ?_, rest⟩
    rw [hg.block g' (Array.getElem?_eq_some_iff.1 hg').1 (fun e => hne g' e.symm (by rw [hv]; rfl))]
    exact hg'
/-- Rows of two element types lie apart. -/
theorem OwnL.apart {E E' : TypeId} (hE : E ≠ E') {size size' base base' : Nat} {w : World} {a a' : Option Addr} {c n c' n' : Nat} {xs xs' : List Value} (h : OwnL E size base w a c n xs) (k : OwnL E' size' base' w a' c' n' xs') : ∀ g, (Value.slice a' n' c').ownBlock = some g → (Value.slice a n c).ownBlock ≠ some g := by
  intro g hg hg2
  rcases h.2 with ⟨h1, _⟩ | ⟨g1, cap, cur, h1, _, hgb, _⟩
  · rw [h1] at hg2; simp [Value.ownBlock] at hg2
  · rcases k.2 with ⟨k1, _⟩ | ⟨g2, cap2, cur2, k1, _, kgb, _⟩
    · rw [k1] at hg; simp [Value.ownBlock] at hg
    · rw [h1] at hg2; rw [k1] at hg
      simp [Value.ownBlock] at hg hg2
      subst hg; subst hg2
      rw [hgb] at kgb
      simp at kgb
      exact hE kgb.2
theorem results_cell1 {fn : Func} {c : Tmp} {T : TypeId} {tmps : Array Value} {P : Program} {w : World} {a : Addr} {v : Value} (h : fn.results = #[.cell c T]) (ha : tmps.getD c undef = .pointer (some a))
    (hv : (loadVar T a).run P w = .ok v w) : (results fn tmps).run P w = .ok v w := by
  rw [Array.getD_eq_getD_getElem?] at ha
  simp [results, h, ha, asAddr, hv]
theorem load_book {w : World} {b : Nat} {v0 v1 v2 v3 : Value} (h : Cells w b #[v0, v1, v2, v3] 32) :
    (loadVar 32 ⟨b, 0, none⟩).run Try.prog w = .ok (.agg #[v0, v1, v2, v3]) w := by
  have hi := Try.isAgg32
  have hs := Try.sizeOf32
  have k0 := h.cell 0
  have k1 := h.cell 1
  have k2 := h.cell 2
  have k3 := h.cell 3
  simp at k0 k1 k2 k3
  unfold loadVar
  go_simp
theorem flat3_take (xs : List K3) (k : Nat) (h : k < xs.length) : flat3 (xs.take (k + 1)) = flat3 (xs.take k) ++ [.int .i64 xs[k].1, .int .i64 xs[k].2.1, .int .i64 xs[k].2.2] := by
  rw [List.take_succ_eq_append_getElem h, flat3_snoc]
def BookV (B : Nat) (s wo : Int) (ds : List Int) (v : Value) (w : World) : Prop := ∃ a c, v = .agg #[.int .i64 s, .int .i64 wo, .slice none 0 0, .slice a ds.length c] ∧ OwnL 3 1 B w a c ds.length (ds.map (Value.int .i64))
theorem BookV.kept {B : Nat} {s wo : Int} {ds : List Int} {v : Value} {w w' : World} (h : BookV B s wo ds v w) (hb : Below w.heap.size w w') : BookV B s wo ds v w' := let ⟨a, c, h1, h2⟩ := h; ⟨a, c, h1, h2.kept hb⟩

set_option maxRecDepth 100000 in
set_option maxHeartbeats 4000000 in
theorem bookConv_any (s wo : Int) (ak : Option Addr) (ks : List (Int × Int × Int)) (ck : Nat) (ad : Option Addr) (ds : List Int) (cd : Nat) (w : World) (hk : Recs3At w ak ks) (hd : IntsAt w ad ds) (lk : ks.length ≤ 1000) (ld : ds.length ≤ 1000) (ln : ad = none → cd = 0) :
    Calls Try.prog 19 #[.agg #[.int .i64 s, .int .i64 wo, .slice ak ks.length ck, .slice ad ds.length cd]] w fun e w' => RetBook w.heap.size s wo ks ds e w' ∧ Below w.heap.size w w' := by
  have qB := BookAt.new w s wo ak ks.length ck ad ds.length cd 25
  go_enter Try.func19, Try.ntmps19
  go_wp2
  obtain ⟨W0, hW0⟩ : ∃ x : World, x = (w.alloc (.cells #[.int .i64 s, .int .i64 wo, .slice ak ks.length ck, .slice ad ds.length cd] 25)).alloc (.cells #[.int .i64 0, .int .i64 0, .slice none 0 0, .slice none 0 0] 32) := ⟨_, rfl⟩
  have hb0 : Below w.heap.size w W0 := by rw [hW0]; (repeat (first | exact Below.refl _ _ | refine Below.alloc ?_ (by first | omega | (simp; done) | (simp; omega)) _ | refine Below.drew ?_ | refine Below.setCell ?_ (by first | omega | (simp; done) | (simp; omega)) _ | refine Below.trans ?_ (Below.mono (by assumption) (by first | omega | (simp; done) | (simp; omega)))))
  have hz0 : W0.heap.size = w.heap.size + 1 + 1 := by rw [hW0]; simp
  have hB0 : BookAt W0 w.heap.size s wo ak ks.length ck ad ds.length cd := by rw [hW0]; exact qB.below ((Below.refl _ _).alloc (Nat.le_refl _) _)
  have hr0 : Cells W0 (w.heap.size + 1) #[.int .i64 0, .int .i64 0, .slice none 0 0, .slice none 0 0] 32 := by
    rw [hW0]
    have := Cells.new (w.alloc (.cells #[.int .i64 s, .int .i64 wo, .slice ak ks.length ck, .slice ad ds.length cd] 25)) #[.int .i64 0, .int .i64 0, .slice none 0 0, .slice none 0 0] 32
    rwa [show (w.alloc (.cells #[.int .i64 s, .int .i64 wo, .slice ak ks.length ck, .slice ad ds.length cd] 25)).heap.size = w.heap.size + 1 by simp] at this
  rw [← hW0]
  clear hW0 qB
  obtain ⟨q0, q1, q2, q3⟩ := hB0
  have lB : w.heap.size < W0.heap.size := by omega
  (refine wp_region_seq 9 [] [9] 32 [true, true, true, true, true, true, false, false, false] [OwnV 3 1 (w.heap.size + 2) ds.length (ds.map (Value.int .i64)), BookV (w.heap.size + 2) s wo ds, PtrV (w.heap.size + 2) #[.int .i64 0, .int .i64 0, .slice none 0 0, .slice none 0 0] 32] (by kernel_rfl) (by kernel_rfl) rfl (mono_cons (fun v w w' h hb => h.kept hb) (mono_cons (fun v w w' h hb => h.kept hb) (mono_cons (fun v w w' h hb => h.kept hb) mono_nil))) ?_; simp only [pickOps, List.filterMap_cons, List.filterMap_nil, List.getElem?_toArray, List.getElem?_cons_succ, List.getElem?_cons_zero]; (repeat (refine wpFl_step _ rfl (fun w => (by go_simp; rfl)) ?_)); refine wpFl_nil ?_; simp only [maskOps, dummy, Act.put, List.setIfInBounds_toArray, List.set_cons_zero, List.set_cons_succ, List.take_succ_cons, List.take_zero, List.drop_succ_cons, List.drop_zero]; (repeat (refine wpQB_step (fun K hK => ?_); go_simp; first | (refine hK _ ?_; clear hK K) | (apply Exists.intro; refine ⟨fun ex => ?_, hK _ ?_⟩; (fail); clear hK K))); refine wpQB_nil ?_; simp only [relObl2, under, relEnd, and_true, List.nil_append, List.cons_append])
  refine ⟨⟨fun e => ?_, fun e v1 h1 => ?_, fun e v1 _ v2 _ => ?_⟩, fun e => ?_⟩
  · go_simp
    have heb := e.below
    refine (list_any ad ds cd e.to (hd.below (hb0.trans (heb.mono hb0.size))) (by omega) ln).mono ?_
    rintro r w' ⟨a1, c1, rfl, o1, hb⟩
    exact ⟨hb, a1, c1, rfl, o1.base_le (by have := e.size; omega)⟩
  · obtain ⟨a1, c1, rfl, o1⟩ := h1 (by kernel_rfl)
    go_simp
    exact ⟨Below.refl _ _, a1, c1, rfl, o1⟩
  · go_simp
    exact ⟨(Below.refl _ _).alloc (Nat.le_refl _) _, e.to.heap.size, rfl, by have := e.size; omega, Cells.new _ _ _⟩
  rintro v1 _ v2 ⟨a1, c1, rfl, o1⟩ v3 ⟨g, rfl, hg0, hgc⟩
  simp only [Act.put, List.setIfInBounds_toArray, List.set_cons_zero, List.set_cons_succ]
  have heb := e.below
  have hez := e.size
  obtain ⟨w1, hw1⟩ : ∃ x : World, x = e.to := ⟨_, rfl⟩
  rw [← hw1] at heb hez hgc o1 ⊢
  clear hw1
  have gl := hgc.lt
  have gc0 := hgc.cell 0
  have gc1 := hgc.cell 1
  have gc2 := hgc.cell 2
  have gc3 := hgc.cell 3
  have gf0 := hgc.frozen 0
  have gf1 := hgc.frozen 1
  have gf2 := hgc.frozen 2
  have gf3 := hgc.frozen 3
  simp at gc0 gc1 gc2 gc3
  go_wp2
  have hgc2 := (((hgc.set 0 (.int .i64 s)).set 1 (.int .i64 wo)).set 2 (.slice none 0 0)).set 3 (.slice a1 ds.length c1)
  obtain ⟨wL, hwL⟩ : ∃ x : World, x = (((w1.setCell ⟨g, 0, none⟩ (.int .i64 s)).setCell ⟨g, 1, none⟩ (.int .i64 wo)).setCell ⟨g, 2, none⟩ (.slice none 0 0)).setCell ⟨g, 3, none⟩ (.slice a1 ds.length c1) := ⟨_, rfl⟩
  have hbL : Below (w.heap.size + 2) W0 wL := by
    rw [hwL]
    exact ((((heb.mono (by omega)).setCell (p := ⟨g, 0, none⟩) hg0 _).setCell (p := ⟨g, 1, none⟩) hg0 _).setCell (p := ⟨g, 2, none⟩) hg0 _).setCell (p := ⟨g, 3, none⟩) hg0 _
  have o1' := o1.moved (w' := wL) (by rw [hwL]; simp) (fun b hb => by rw [hwL, Below.heap_setCell _ _ _ _ hb, Below.heap_setCell _ _ _ _ hb, Below.heap_setCell _ _ _ _ hb, Below.heap_setCell _ _ _ _ hb]) (hgc.not_row (by decide) o1)
  rw [← hwL] at hgc2 ⊢
  clear hwL gc0 gc1 gc2 gc3 gf0 gf1 gf2 gf3 hgc gl heb hez o1 q0 q1 q3
  go_loopw [4] (fun i wr => ∃ (k : Nat) (a' : Option Addr) (c' : Nat), k ≤ ks.length ∧ i = .int .i64 k ∧ Cells wr g #[.int .i64 s, .int .i64 wo, .slice a' k c', .slice a1 ds.length c1] 32 ∧
        OwnL 91 3 (w.heap.size + 2) wr a' c' k (flat3 (ks.take k)) ∧ OwnL 3 1 (w.heap.size + 2) wr a1 c1 ds.length (ds.map (Value.int .i64)) ∧ Below (w.heap.size + 2) W0 wr)
      (fun i _ => ks.length - (intOf i).toNat)
  case atStart => exact ⟨0, none, 0, Nat.zero_le _, rfl, hgc2, OwnL.nil _ _ _ _, o1', hbL⟩
  case round =>
    obtain ⟨k, a', c', hkk, rfl, hcs2, hown2, hown3, hb3⟩ := hrel
    have hwr : Below w.heap.size w wr := hb0.trans (hb3.mono (by omega))
    have r2 : wr.cell? ⟨w.heap.size, 2, none⟩ = some (.slice ak ks.length ck) := (hb3.cell (p := ⟨w.heap.size, 2, none⟩) (by simp)).trans q2
    have g2 : wr.cell? ⟨g, 2, none⟩ = some (.slice a' k c') := hcs2.cell 2
    have gl := hcs2.lt
    have wl := cell_lt r2
    simp only at wl
    by_cases hlt : k < ks.length
    · obtain ⟨b, off, rfl, hbl, c0, c1, c2⟩ := (hk.below hwr) k hlt
      have hltI : (k : Int) < (ks.length : Int) := by omega
      obtain ⟨⟨m, a, st⟩, hx⟩ : ∃ x, ks[k] = x := ⟨_, rfl⟩
      rw [hx] at c0 c1 c2
      simp only at c0 c1 c2
      have Hx := Lib.hid hx
      clear hx
      go_wp2
      (refine wp_region_seq 9 [] [9, 10, 11] 32 [true, true, true, true, true, true, true, true, false] [LitV (w.heap.size + 2) 1 #[.int .i64 m, .int .i64 a, .int .i64 st] 91] (by kernel_rfl) (by kernel_rfl) rfl (mono_cons (fun v w w' h hb => h.kept hb) mono_nil) ?_; simp only [pickOps, List.filterMap_cons, List.filterMap_nil, List.getElem?_toArray, List.getElem?_cons_succ, List.getElem?_cons_zero]; (repeat (refine wpFl_step _ rfl (fun w => (by go_simp; rfl)) ?_)); refine wpFl_nil ?_; simp only [maskOps, dummy, Act.put, List.setIfInBounds_toArray, List.set_cons_zero, List.set_cons_succ, List.take_succ_cons, List.take_zero, List.drop_succ_cons, List.drop_zero]; (repeat (refine wpQB_step (fun K hK => ?_); go_simp; first | (refine hK _ ?_; clear hK K) | (apply Exists.intro; refine ⟨fun ex => ?_, hK _ ?_⟩; ((go_at_call 55; exact keyConv_any m a st _)); clear hK K))); refine wpQB_nil ?_; simp only [relObl2, under, relEnd, and_true, List.nil_append, List.cons_append])
      · exact ⟨fun e => by go_simp; exact ⟨(Below.refl _ _).alloc (Nat.le_refl _) _, e.to.heap.size, rfl, by have := e.size; have := hb3.size; omega, Cells.new _ _ _⟩, fun e => by
          rintro v1 ⟨gg, rfl, hg1, hgg⟩
          simp only [Act.put, List.setIfInBounds_toArray, List.set_cons_zero, List.set_cons_succ]
          have heb := e.below
          have hez := e.size
          have hcs3 := hcs2.below heb
          have hown4 := hown2.kept heb
          have hown5 := hown3.kept heb
          obtain ⟨w5, hw5⟩ : ∃ x : World, x = e.to := ⟨_, rfl⟩
          rw [← hw5] at heb hez hgg hcs3 hown4 hown5 ⊢
          clear hw5
          refine wpList_app_g elKey rfl _ _ rfl (w.heap.size + 2) a' k c' _ rfl hown4 (some ⟨gg, 0, none⟩) 1 1 _ rfl (fun h => by cases h) rfl hgg.src (fun u hu => by simp at hu; rcases hu with rfl | rfl | rfl <;> rfl) (by unfold maxLen; omega) (by omega) (by omega) ?_
          intro a6 c6 w6 hown6 hb6 hg6
          have hcs6 := hcs3.grown hg6 (hcs3.not_row (by decide) hown4)
          have hown7 := hown5.grown hg6 (OwnL.apart (by decide) hown5 hown4)
          have g6 := hcs6.cell 2
          have gf6 := hcs6.frozen 2
          have gl6 := hcs6.lt
          simp at g6
          have hcs7 := hcs6.set 2 (.slice a6 (k + 1) c6)
          have hown8 := hown6.moved (w' := w6.setCell ⟨g, 2, none⟩ (.slice a6 (k + 1) c6)) (g := g) (by simp) (fun b hb => Below.heap_setCell _ _ _ _ hb) (hcs6.not_row (by decide) hown6)
          have hown9 := hown7.moved (w' := w6.setCell ⟨g, 2, none⟩ (.slice a6 (k + 1) c6)) (g := g) (by simp) (fun b hb => Below.heap_setCell _ _ _ _ hb) (hcs6.not_row (by decide) hown7)
          have hb9 : Below (w.heap.size + 2) W0 (w6.setCell ⟨g, 2, none⟩ (.slice a6 (k + 1) c6)) := ((hb3.trans (heb.mono (by have := hb3.size; omega))).trans hb6).setCell (p := ⟨g, 2, none⟩) hg0 _
          clear hcs6 hown6 hown7 hcs3 hown4 hown5 hown2 hown3 hcs2 hgg c0 c1 c2 r2 g2
          go_wp2
          go_roundw
          case rel => exact ⟨k + 1, a6, c6, by omega, by go_num, hcs7, by rw [flat3_take ks k hlt, Hx.out]; exact hown8, hown9, hb9⟩
          case measure => simp [intOf]; omega⟩
    · obtain rfl : k = ks.length := by omega
      have gc0 := hcs2.cell 0
      have gc1 := hcs2.cell 1
      have gc2 := hcs2.cell 2
      have gc3 := hcs2.cell 3
      have hr1 : Cells wr (w.heap.size + 1) #[.int .i64 0, .int .i64 0, .slice none 0 0, .slice none 0 0] 32 := (hb3.block (w.heap.size + 1) (by omega)).trans hr0
      have rc0 := hr1.cell 0
      have rc1 := hr1.cell 1
      have rc2 := hr1.cell 2
      have rc3 := hr1.cell 3
      have rf0 := hr1.frozen 0
      have rf1 := hr1.frozen 1
      have rf2 := hr1.frozen 2
      have rf3 := hr1.frozen 3
      have rl := hr1.lt
      simp at gc0 gc1 gc2 gc3 rc0 rc1 rc2 rc3
      go_wp2
      have hrX := (((hr1.set 0 (.int .i64 s)).set 1 (.int .i64 wo)).set 2 (.slice a' ks.length c')).set 3 (.slice a1 ds.length c1)
      refine bodyPost_ret (results_cell1 rfl rfl (load_book hrX)) rfl ?_
      refine ⟨⟨a', c', a1, c1, rfl, ?_, ?_⟩, ?_⟩
      · rw [List.take_length] at hown2
        exact ((((hown2.setCell (by simp) _).setCell (by simp) _).setCell (by simp) _).setCell (by simp) _).base_le (by omega)
      · exact ((((hown3.setCell (by simp) _).setCell (by simp) _).setCell (by simp) _).setCell (by simp) _).base_le (by omega)
      · exact (((hwr.setCell (by simp) _).setCell (by simp) _).setCell (by simp) _).setCell (by simp) _
end Go.Proofs.Ytmplgcefhpobgaa

namespace Go.Proofs.Ytmplgcefhpobgaa
set_option linter.unusedVariables false
set_option linter.unusedSimpArgs false
set_option linter.unnecessarySimpa false
open Go.RowKit Go.Flow

theorem OwnL.lits (T : TypeId) (size : Nat) (w : World) (cs : Array Value) (n : Nat) (hm : n ≤ maxLen) (hs : cs.size = n * size) (base : Nat) (hb : base ≤ w.heap.size) : OwnL T size base (w.alloc (.cells cs T)) (some ⟨w.heap.size, 0, none⟩) n n cs.toList :=
  OwnL.lit cs hb hm hs

def exKs : List K3 := [(2, 3, 1), (5, 0, 0)]
def exDs : List Int := [0, 0, 1]

set_option maxHeartbeats 1000000 in
theorem book_any (w : World) : Calls Try.prog 47 #[] w fun e w' => RetBook w.heap.size 13 10 exKs exDs e w' ∧ Below w.heap.size w w' := by
  go_enter Try.func47, Try.ntmps47
  go_wp2
  obtain ⟨w1, hw1⟩ : ∃ x : World, x = w.alloc (.cells #[.int .i64 13, .int .i64 10, .slice (some ⟨w.heap.size + 1, 0, none⟩) 2 2, .slice (some ⟨w.heap.size + 1 + 1, 0, none⟩) 3 3] 32) := ⟨_, rfl⟩
  have hc := Cells.new w #[.int .i64 13, .int .i64 10, .slice (some ⟨w.heap.size + 1, 0, none⟩) 2 2, .slice (some ⟨w.heap.size + 1 + 1, 0, none⟩) 3 3] 32
  have hz : w1.heap.size = w.heap.size + 1 := by rw [hw1]; simp
  have hb : Below w.heap.size w w1 := by rw [hw1]; (repeat (first | exact Below.refl _ _ | refine Below.alloc ?_ (by first | omega | (simp; done) | (simp; omega)) _ | refine Below.drew ?_ | refine Below.setCell ?_ (by first | omega | (simp; done) | (simp; omega)) _ | refine Below.trans ?_ (Below.mono (by assumption) (by first | omega | (simp; done) | (simp; omega)))))
  rw [← hw1] at hc ⊢
  clear hw1
  have o1 := OwnL.lit (E := 91) (size := 3) (base := w.heap.size) (n := 2) (w := w1) #[.int .i64 2, .int .i64 3, .int .i64 1, .int .i64 5, .int .i64 0, .int .i64 0] (by omega) (by decide) rfl
  have b1 : Below w1.heap.size w1 (w1.alloc (.cells #[.int .i64 2, .int .i64 3, .int .i64 1, .int .i64 5, .int .i64 0, .int .i64 0] 91)) := (Below.refl _ _).alloc (Nat.le_refl _) _
  obtain ⟨w2, hw2⟩ : ∃ x : World, x = w1.alloc (.cells #[.int .i64 2, .int .i64 3, .int .i64 1, .int .i64 5, .int .i64 0, .int .i64 0] 91) := ⟨_, rfl⟩
  have hz2 : w2.heap.size = w.heap.size + 1 + 1 := by rw [hw2]; simp [hz]
  rw [hz, ← hw2] at o1
  rw [← hw2] at b1 ⊢
  clear hw2
  have o2 := OwnL.lit (E := 3) (size := 1) (base := w.heap.size) (n := 3) (w := w2) #[.int .i64 0, .int .i64 0, .int .i64 1] (by omega) (by decide) rfl
  have b2 : Below w2.heap.size w2 (w2.alloc (.cells #[.int .i64 0, .int .i64 0, .int .i64 1] 3)) := (Below.refl _ _).alloc (Nat.le_refl _) _
  rw [hz2] at o2
  have b3 : Below w1.heap.size w1 (w2.alloc (.cells #[.int .i64 0, .int .i64 0, .int .i64 1] 3)) := b1.trans (b2.mono (by omega))
  refine bodyPost_ret (results_cell1 rfl rfl (load_book (hc.below b3))) rfl ?_
  exact ⟨⟨_, _, _, _, rfl, o1.kept b2, o2⟩, hb.trans (b3.mono hb.size)⟩
set_option maxHeartbeats 1000000 in
theorem early_any (w : World) : Calls Try.prog 48 #[] w fun e w' => (∃ a, e = .returned (.slice a 1 1) ∧ Recs2At w' a [(0, 1)]) ∧ Below w.heap.size w w' := by
  go_enter Try.func48, Try.ntmps48
  go_wp2
  go_ret
  refine ⟨⟨_, rfl, ?_⟩, by (repeat (first | exact Below.refl _ _ | refine Below.alloc ?_ (by first | omega | (simp; done) | (simp; omega)) _ | refine Below.drew ?_ | refine Below.setCell ?_ (by first | omega | (simp; done) | (simp; omega)) _ | refine Below.trans ?_ (Below.mono (by assumption) (by first | omega | (simp; done) | (simp; omega)))))⟩
  intro k hk
  have h0 : k = 0 := by simp at hk; omega
  subst h0
  exact ⟨w.heap.size, 0, rfl, by simp, cell_new w _ _ 0 _ rfl, cell_new w _ _ 1 _ rfl⟩

theorem ints_lit (w : World) (cs : Array Value) (T : TypeId) (l : List Int) (h : cs.toList = l.map (Value.int .i64)) : IntsAt (w.alloc (.cells cs T)) (some ⟨w.heap.size, 0, none⟩) l := fun k hk => by
  refine ⟨w.heap.size, 0, rfl, by simp, ?_⟩
  rw [Nat.zero_add]
  refine cell_new w cs T k _ ?_
  rw [← Array.getElem?_toList, h]
  simp [hk]
theorem recs2_lit (w : World) (cs : Array Value) (T : TypeId) (l : List (Int × Int)) (h : cs.toList = l.flatMap fun x => [.int .i64 x.1, .int .i64 x.2]) : Recs2At (w.alloc (.cells cs T)) (some ⟨w.heap.size, 0, none⟩) l := fun k hk => by
  have key : ∀ (l : List (Int × Int)) (k : Nat) (h : k < l.length), (l.flatMap fun x => [Value.int .i64 x.1, .int .i64 x.2])[k * 2]? = some (.int .i64 l[k].1) ∧ (l.flatMap fun x => [Value.int .i64 x.1, .int .i64 x.2])[k * 2 + 1]? = some (.int .i64 l[k].2) := by
    intro l
    induction l with
    | nil => intro k h; simp at h
    | cons x l ih =>
      intro k h
      cases k with
      | zero => simp
      | succ k =>
        obtain ⟨a, b⟩ := ih k (by simpa using h)
        rw [show (k + 1) * 2 = k * 2 + 2 by omega]
        simp only [List.flatMap_cons, List.cons_append, List.nil_append, List.getElem?_cons_succ]
        exact ⟨a, b⟩
  obtain ⟨k0, k1⟩ := key l k hk
  rw [← h, Array.getElem?_toList] at k0 k1
  refine ⟨w.heap.size, 0, rfl, by simp, ?_, ?_⟩
  · rw [Nat.zero_add]; exact cell_new w cs T _ _ k0
  · rw [Nat.zero_add]; exact cell_new w cs T _ _ k1
theorem recs2_lit' (w : World) (cs : Array Value) (T : TypeId) (l : List (Int × Int)) (B : Nat) (hB : B = w.heap.size) (h : cs.toList = l.flatMap fun x => [.int .i64 x.1, .int .i64 x.2]) : Recs2At (w.alloc (.cells cs T)) (some ⟨B, 0, none⟩) l := by subst hB; exact recs2_lit w cs T l h
theorem ints_lit' (w : World) (cs : Array Value) (T : TypeId) (l : List Int) (B : Nat) (hB : B = w.heap.size) (h : cs.toList = l.map (Value.int .i64)) : IntsAt (w.alloc (.cells cs T)) (some ⟨B, 0, none⟩) l := by subst hB; exact ints_lit w cs T l h
theorem RetBook.out {B : Nat} {s wo : Int} {ks : List K3} {ds : List Int} {e : Ending} {w' : World} (h : RetBook B s wo ks ds e w') : ∃ ak ck ad cd, e = .returned (.agg #[.int .i64 s, .int .i64 wo, .slice ak ks.length ck, .slice ad ds.length cd]) ∧ Recs3At w' ak ks ∧ IntsAt w' ad ds :=
  let ⟨ak, ck, ad, cd, he, o1, o2⟩ := h
  ⟨ak, ck, ad, cd, he, o1.recs3, o2.ints.1⟩

abbrev EXB (ak : Option Addr) (ck : Nat) (ad : Option Addr) (cd : Nat) : Value := .agg #[.int .i64 13, .int .i64 10, .slice ak 2 ck, .slice ad 3 cd]
theorem exCode (ak : Option Addr) (ck : Nat) (ad : Option Addr) (cd : Nat) (ap : Option Addr) (w : World) (hk : Recs3At w ak exKs) (hd : IntsAt w ad exDs) (hp : IntsAt w ap [4, 11, 4]) :
    Calls Try.prog 20 #[EXB ak ck ad cd, .int .i64 0, .slice ap 3 3] w fun e w' => (∃ a c, e = .returned (.tuple #[.slice a 5 c, .int .i64 0]) ∧ IntsAt w' a [0, 11, 0, 0, 9]) ∧ Below w.heap.size w w' := by
  refine (code_full 13 10 ak exKs ck ad exDs cd 0 ap [4, 11, 4] 3 w hk hd (by decide) (by decide) hp (by decide)).mono ?_
  rintro e w' ⟨⟨a, c, he, ho⟩, hb⟩
  have e1 : codeOut 13 10 exKs exDs 0 [4, 11, 4] = [0, 11, 0, 0, 9] := by kernel_rfl
  have e2 : codeErr 13 10 exKs exDs 0 [4, 11, 4] = 0 := by kernel_rfl
  rw [e1, e2] at he
  rw [e1] at ho
  exact ⟨⟨a, c, he, ho.ints.1⟩, hb⟩
theorem exDecode (ak : Option Addr) (ck : Nat) (ad : Option Addr) (cd : Nat) (ap : Option Addr) (w : World) (hk : Recs3At w ak exKs) (hd : IntsAt w ad exDs) (hp : IntsAt w ap [0, 11, 0, 0, 9]) :
    Calls Try.prog 27 #[EXB ak ck ad cd, .int .i64 0, .slice ap 5 5] w fun e w' => (∃ a c a2 c2, e = .returned (.tuple #[.slice a 3 c, .slice a2 2 c2, .int .i64 0]) ∧ IntsAt w' a [4, 11, 4] ∧ IntsAt w' a2 [4, 4]) ∧ Below w.heap.size w w' := by
  refine (decode_full 13 10 ak exKs ck ad exDs cd 0 ap [0, 11, 0, 0, 9] 5 w hk hd (by decide) (by decide) hp (by decide) (by decide) (by decide)).mono ?_
  rintro e w' ⟨⟨a, c, a2, c2, he, ho, ho2⟩, hb⟩
  have e1 : decOut 13 10 exKs exDs 0 [0, 11, 0, 0, 9] = [4, 11, 4] := by kernel_rfl
  have e2 : decodeErr 13 10 exKs exDs 0 [0, 11, 0, 0, 9] = 0 := by kernel_rfl
  have e3 : kept (fun n => decide (10 ≤ n)) [4, 11, 4] = [4, 4] := by kernel_rfl
  rw [e1, e2, e3] at he
  rw [e1] at ho ho2
  rw [e3] at ho2
  exact ⟨⟨a, c, a2, c2, he, ho.ints.1, ho2.ints.1⟩, hb⟩
theorem exExposed (ak : Option Addr) (ck : Nat) (ad : Option Addr) (cd : Nat) (ap : Option Addr) (w : World) (hk : Recs3At w ak exKs) (hd : IntsAt w ad exDs) (hp : Recs2At w ap [(0, 1)]) :
    Calls Try.prog 29 #[EXB ak ck ad cd, .slice ap 1 1] w fun e w' => (∃ a c, e = .returned (.tuple #[.slice a 3 c, .int .i64 0]) ∧ IntsAt w' a [1, 1, -1]) ∧ Below w.heap.size w w' := by
  refine (exposed_full 13 10 ak exKs ck ad exDs cd ap [(0, 1)] 1 w hk hd (by decide) (by decide) hp (by decide)).mono ?_
  rintro e w' ⟨⟨a, c, he, ho⟩, hb⟩
  have e1 : expOut 13 10 exKs exDs [(0, 1)] = [1, 1, -1] := by kernel_rfl
  have e2 : lossErr 13 10 exKs exDs [(0, 1)] = 0 := by kernel_rfl
  rw [e1, e2] at he
  rw [e1] at ho
  exact ⟨⟨a, c, he, ho.ints.1⟩, hb⟩
theorem exPlan (ak : Option Addr) (ck : Nat) (ad : Option Addr) (cd : Nat) (ap : Option Addr) (w : World) (hk : Recs3At w ak exKs) (hd : IntsAt w ad exDs) (hp : Recs2At w ap [(0, 1)]) :
    Calls Try.prog 35 #[EXB ak ck ad cd, .slice ap 1 1, .int .i64 2] w fun e w' => (∃ a c, e = .returned (.tuple #[.slice a 3 c, .int .i64 1, .int .i64 0]) ∧ IntsAt w' a [0, 1, 1]) ∧ Below w.heap.size w w' := by
  refine (plan_full 13 10 ak exKs ck ad exDs cd ap [(0, 1)] 1 2 w hk hd (by decide) (by decide) hp (by decide)).mono ?_
  rintro e w' ⟨⟨a, c, he, ho⟩, hb⟩
  have e1 : planDays 13 10 exKs exDs [(0, 1)] 2 = [0, 1, 1] := by kernel_rfl
  have e2 : planErr 13 10 exKs exDs [(0, 1)] 2 = 0 := by kernel_rfl
  have e3 : planCh 13 10 exKs exDs [(0, 1)] 2 = 1 := by kernel_rfl
  rw [e1, e2, e3] at he
  rw [e1] at ho
  exact ⟨⟨a, c, he, ho.ints.1⟩, hb⟩
theorem exFits (ak : Option Addr) (ck : Nat) (ad : Option Addr) (cd : Nat) (ac ag : Option Addr) (w : World) (hk : Recs3At w ak exKs) (hd : IntsAt w ad exDs) (hc : IntsAt w ac [11, 0, 0]) (hg : Recs2At w ag [(0, 4), (2, 4)]) :
    Calls Try.prog 40 #[EXB ak ck ad cd, .slice ac 3 3, .slice ag 2 2] w fun e w' => e = .returned (.tuple #[.int .i64 12, .int .i64 0]) ∧ Below w.heap.size w w' := by
  refine (fits_full 13 10 ak exKs ck ad exDs cd ac [11, 0, 0] 3 ag [(0, 4), (2, 4)] 2 w hk hd (by decide) (by decide) hc (by decide) hg (by decide)).mono ?_
  rintro e w' ⟨he, hb⟩
  have e1 : fitsN 13 10 exKs exDs [11, 0, 0] [(0, 4), (2, 4)] = 12 := by kernel_rfl
  have e2 : fitsErr 13 10 exKs exDs [11, 0, 0] [(0, 4), (2, 4)] = 0 := by kernel_rfl
  rw [e1, e2] at he
  exact ⟨he, hb⟩
theorem same_eq (a : Option Addr) (xs : List Int) (c : Nat) (b : Option Addr) (d : Nat) (w : World) (hx : IntsAt w a xs) (hy : IntsAt w b xs) (lx : xs.length ≤ 1000000) :
    Calls Try.prog 25 #[.slice a xs.length c, .slice b xs.length d] w fun e w' => e = .returned (.bool true) ∧ Below w.heap.size w w' := by
  have := same_any a xs c b xs d w hx hy lx lx
  rwa [show sameB xs xs = true from decide_eq_true rfl] at this
end Go.Proofs.Ytmplgcefhpobgaa

namespace Go.Proofs.Ytmplgcefhpobgaa
set_option linter.unusedVariables false
set_option linter.unusedSimpArgs false
set_option linter.unnecessarySimpa false
open Go.RowKit Go.Flow

set_option maxRecDepth 100000 in
set_option maxHeartbeats 4000000 in
theorem awake_any (w : World) : Calls Try.prog 17 #[] w fun e w' => e = .returned (.bool true) ∧ Below w.heap.size w w' := by
  go_enter Try.func17, Try.ntmps17
  go_wp2_with fail
  go_at_call 47
  refine (book_any _).mono ?_
  rintro e w1 ⟨hr, b1⟩
  have t1 : Below w.heap.size w w1 := b1
  obtain ⟨akA, ckA, adA, cdA, rfl, kA, dA⟩ := hr.out
  clear hr
  go_wp2_with fail
  go_at_call 20
  refine (exCode akA ckA adA cdA _ _ (kA.below (by (repeat (first | exact Below.refl _ _ | refine Below.alloc ?_ (by first | omega | (simp; done) | (simp; omega)) _ | refine Below.drew ?_ | refine Below.setCell ?_ (by first | omega | (simp; done) | (simp; omega)) _ | refine Below.trans ?_ (Below.mono (by assumption) (by first | omega | (simp; done) | (simp; omega))))))) (dA.below (by (repeat (first | exact Below.refl _ _ | refine Below.alloc ?_ (by first | omega | (simp; done) | (simp; omega)) _ | refine Below.drew ?_ | refine Below.setCell ?_ (by first | omega | (simp; done) | (simp; omega)) _ | refine Below.trans ?_ (Below.mono (by assumption) (by first | omega | (simp; done) | (simp; omega))))))) (ints_lit _ _ _ _ rfl)).mono ?_
  rintro e w2 ⟨⟨aC, cC, rfl, iC⟩, b2⟩
  replace kA := kA.below (w' := w2) (by (repeat (first | exact Below.refl _ _ | refine Below.alloc ?_ (by first | omega | (simp; done) | (simp; omega)) _ | refine Below.drew ?_ | refine Below.setCell ?_ (by first | omega | (simp; done) | (simp; omega)) _ | refine Below.trans ?_ (Below.mono (by assumption) (by first | omega | (simp; done) | (simp; omega))))))
  replace dA := dA.below (w' := w2) (by (repeat (first | exact Below.refl _ _ | refine Below.alloc ?_ (by first | omega | (simp; done) | (simp; omega)) _ | refine Below.drew ?_ | refine Below.setCell ?_ (by first | omega | (simp; done) | (simp; omega)) _ | refine Below.trans ?_ (Below.mono (by assumption) (by first | omega | (simp; done) | (simp; omega))))))
  have t2 : Below w.heap.size w w2 := Below.trans t1 (Below.mono (w := w1) (w' := w2) (by (repeat (first | exact Below.refl _ _ | refine Below.alloc ?_ (by first | omega | (simp; done) | (simp; omega)) _ | refine Below.drew ?_ | refine Below.setCell ?_ (by first | omega | (simp; done) | (simp; omega)) _ | refine Below.trans ?_ (Below.mono (by assumption) (by first | omega | (simp; done) | (simp; omega)))))) t1.size)
  clear kA dA
  go_wp2_with fail
  go_at_call 47
  refine (book_any _).mono ?_
  rintro e w3 ⟨hr, b3⟩
  replace iC := iC.below (w' := w3) (by (repeat (first | exact Below.refl _ _ | refine Below.alloc ?_ (by first | omega | (simp; done) | (simp; omega)) _ | refine Below.drew ?_ | refine Below.setCell ?_ (by first | omega | (simp; done) | (simp; omega)) _ | refine Below.trans ?_ (Below.mono (by assumption) (by first | omega | (simp; done) | (simp; omega))))))
  have t3 : Below w.heap.size w w3 := Below.trans t2 (Below.mono (w := w2) (w' := w3) (by (repeat (first | exact Below.refl _ _ | refine Below.alloc ?_ (by first | omega | (simp; done) | (simp; omega)) _ | refine Below.drew ?_ | refine Below.setCell ?_ (by first | omega | (simp; done) | (simp; omega)) _ | refine Below.trans ?_ (Below.mono (by assumption) (by first | omega | (simp; done) | (simp; omega)))))) t2.size)
  obtain ⟨akB, ckB, adB, cdB, rfl, kB, dB⟩ := hr.out
  clear hr
  go_wp2_with fail
  go_at_call 27
  refine (exDecode akB ckB adB cdB _ _ (kB.below (by (repeat (first | exact Below.refl _ _ | refine Below.alloc ?_ (by first | omega | (simp; done) | (simp; omega)) _ | refine Below.drew ?_ | refine Below.setCell ?_ (by first | omega | (simp; done) | (simp; omega)) _ | refine Below.trans ?_ (Below.mono (by assumption) (by first | omega | (simp; done) | (simp; omega))))))) (dB.below (by (repeat (first | exact Below.refl _ _ | refine Below.alloc ?_ (by first | omega | (simp; done) | (simp; omega)) _ | refine Below.drew ?_ | refine Below.setCell ?_ (by first | omega | (simp; done) | (simp; omega)) _ | refine Below.trans ?_ (Below.mono (by assumption) (by first | omega | (simp; done) | (simp; omega))))))) (ints_lit _ _ _ _ rfl)).mono ?_
  rintro e w4 ⟨⟨aP, cP, aW, cW, rfl, iP, iW⟩, b4⟩
  replace iC := iC.below (w' := w4) (by (repeat (first | exact Below.refl _ _ | refine Below.alloc ?_ (by first | omega | (simp; done) | (simp; omega)) _ | refine Below.drew ?_ | refine Below.setCell ?_ (by first | omega | (simp; done) | (simp; omega)) _ | refine Below.trans ?_ (Below.mono (by assumption) (by first | omega | (simp; done) | (simp; omega))))))
  replace kB := kB.below (w' := w4) (by (repeat (first | exact Below.refl _ _ | refine Below.alloc ?_ (by first | omega | (simp; done) | (simp; omega)) _ | refine Below.drew ?_ | refine Below.setCell ?_ (by first | omega | (simp; done) | (simp; omega)) _ | refine Below.trans ?_ (Below.mono (by assumption) (by first | omega | (simp; done) | (simp; omega))))))
  replace dB := dB.below (w' := w4) (by (repeat (first | exact Below.refl _ _ | refine Below.alloc ?_ (by first | omega | (simp; done) | (simp; omega)) _ | refine Below.drew ?_ | refine Below.setCell ?_ (by first | omega | (simp; done) | (simp; omega)) _ | refine Below.trans ?_ (Below.mono (by assumption) (by first | omega | (simp; done) | (simp; omega))))))
  have t4 : Below w.heap.size w w4 := Below.trans t3 (Below.mono (w := w3) (w' := w4) (by (repeat (first | exact Below.refl _ _ | refine Below.alloc ?_ (by first | omega | (simp; done) | (simp; omega)) _ | refine Below.drew ?_ | refine Below.setCell ?_ (by first | omega | (simp; done) | (simp; omega)) _ | refine Below.trans ?_ (Below.mono (by assumption) (by first | omega | (simp; done) | (simp; omega)))))) t3.size)
  clear kB dB
  go_wp2_with fail
  go_at_call 47
  refine (book_any _).mono ?_
  rintro e w5 ⟨hr, b5⟩
  replace iC := iC.below (w' := w5) (by (repeat (first | exact Below.refl _ _ | refine Below.alloc ?_ (by first | omega | (simp; done) | (simp; omega)) _ | refine Below.drew ?_ | refine Below.setCell ?_ (by first | omega | (simp; done) | (simp; omega)) _ | refine Below.trans ?_ (Below.mono (by assumption) (by first | omega | (simp; done) | (simp; omega))))))
  replace iP := iP.below (w' := w5) (by (repeat (first | exact Below.refl _ _ | refine Below.alloc ?_ (by first | omega | (simp; done) | (simp; omega)) _ | refine Below.drew ?_ | refine Below.setCell ?_ (by first | omega | (simp; done) | (simp; omega)) _ | refine Below.trans ?_ (Below.mono (by assumption) (by first | omega | (simp; done) | (simp; omega))))))
  replace iW := iW.below (w' := w5) (by (repeat (first | exact Below.refl _ _ | refine Below.alloc ?_ (by first | omega | (simp; done) | (simp; omega)) _ | refine Below.drew ?_ | refine Below.setCell ?_ (by first | omega | (simp; done) | (simp; omega)) _ | refine Below.trans ?_ (Below.mono (by assumption) (by first | omega | (simp; done) | (simp; omega))))))
  have t5 : Below w.heap.size w w5 := Below.trans t4 (Below.mono (w := w4) (w' := w5) (by (repeat (first | exact Below.refl _ _ | refine Below.alloc ?_ (by first | omega | (simp; done) | (simp; omega)) _ | refine Below.drew ?_ | refine Below.setCell ?_ (by first | omega | (simp; done) | (simp; omega)) _ | refine Below.trans ?_ (Below.mono (by assumption) (by first | omega | (simp; done) | (simp; omega)))))) t4.size)
  obtain ⟨akD, ckD, adD, cdD, rfl, kD, dD⟩ := hr.out
  clear hr
  go_wp2_with fail
  go_at_call 48
  refine (early_any _).mono ?_
  rintro e w6 ⟨⟨aE, rfl, iE⟩, b6⟩
  replace iC := iC.below (w' := w6) (by (repeat (first | exact Below.refl _ _ | refine Below.alloc ?_ (by first | omega | (simp; done) | (simp; omega)) _ | refine Below.drew ?_ | refine Below.setCell ?_ (by first | omega | (simp; done) | (simp; omega)) _ | refine Below.trans ?_ (Below.mono (by assumption) (by first | omega | (simp; done) | (simp; omega))))))
  replace iP := iP.below (w' := w6) (by (repeat (first | exact Below.refl _ _ | refine Below.alloc ?_ (by first | omega | (simp; done) | (simp; omega)) _ | refine Below.drew ?_ | refine Below.setCell ?_ (by first | omega | (simp; done) | (simp; omega)) _ | refine Below.trans ?_ (Below.mono (by assumption) (by first | omega | (simp; done) | (simp; omega))))))
  replace iW := iW.below (w' := w6) (by (repeat (first | exact Below.refl _ _ | refine Below.alloc ?_ (by first | omega | (simp; done) | (simp; omega)) _ | refine Below.drew ?_ | refine Below.setCell ?_ (by first | omega | (simp; done) | (simp; omega)) _ | refine Below.trans ?_ (Below.mono (by assumption) (by first | omega | (simp; done) | (simp; omega))))))
  replace kD := kD.below (w' := w6) (by (repeat (first | exact Below.refl _ _ | refine Below.alloc ?_ (by first | omega | (simp; done) | (simp; omega)) _ | refine Below.drew ?_ | refine Below.setCell ?_ (by first | omega | (simp; done) | (simp; omega)) _ | refine Below.trans ?_ (Below.mono (by assumption) (by first | omega | (simp; done) | (simp; omega))))))
  replace dD := dD.below (w' := w6) (by (repeat (first | exact Below.refl _ _ | refine Below.alloc ?_ (by first | omega | (simp; done) | (simp; omega)) _ | refine Below.drew ?_ | refine Below.setCell ?_ (by first | omega | (simp; done) | (simp; omega)) _ | refine Below.trans ?_ (Below.mono (by assumption) (by first | omega | (simp; done) | (simp; omega))))))
  have t6 : Below w.heap.size w w6 := Below.trans t5 (Below.mono (w := w5) (w' := w6) (by (repeat (first | exact Below.refl _ _ | refine Below.alloc ?_ (by first | omega | (simp; done) | (simp; omega)) _ | refine Below.drew ?_ | refine Below.setCell ?_ (by first | omega | (simp; done) | (simp; omega)) _ | refine Below.trans ?_ (Below.mono (by assumption) (by first | omega | (simp; done) | (simp; omega)))))) t5.size)
  go_wp2_with fail
  go_at_call 29
  refine (exExposed akD ckD adD cdD _ _ kD dD iE).mono ?_
  rintro e w7 ⟨⟨aX, cX, rfl, iX⟩, b7⟩
  replace iC := iC.below (w' := w7) (by (repeat (first | exact Below.refl _ _ | refine Below.alloc ?_ (by first | omega | (simp; done) | (simp; omega)) _ | refine Below.drew ?_ | refine Below.setCell ?_ (by first | omega | (simp; done) | (simp; omega)) _ | refine Below.trans ?_ (Below.mono (by assumption) (by first | omega | (simp; done) | (simp; omega))))))
  replace iP := iP.below (w' := w7) (by (repeat (first | exact Below.refl _ _ | refine Below.alloc ?_ (by first | omega | (simp; done) | (simp; omega)) _ | refine Below.drew ?_ | refine Below.setCell ?_ (by first | omega | (simp; done) | (simp; omega)) _ | refine Below.trans ?_ (Below.mono (by assumption) (by first | omega | (simp; done) | (simp; omega))))))
  replace iW := iW.below (w' := w7) (by (repeat (first | exact Below.refl _ _ | refine Below.alloc ?_ (by first | omega | (simp; done) | (simp; omega)) _ | refine Below.drew ?_ | refine Below.setCell ?_ (by first | omega | (simp; done) | (simp; omega)) _ | refine Below.trans ?_ (Below.mono (by assumption) (by first | omega | (simp; done) | (simp; omega))))))
  replace kD := kD.below (w' := w7) (by (repeat (first | exact Below.refl _ _ | refine Below.alloc ?_ (by first | omega | (simp; done) | (simp; omega)) _ | refine Below.drew ?_ | refine Below.setCell ?_ (by first | omega | (simp; done) | (simp; omega)) _ | refine Below.trans ?_ (Below.mono (by assumption) (by first | omega | (simp; done) | (simp; omega))))))
  replace dD := dD.below (w' := w7) (by (repeat (first | exact Below.refl _ _ | refine Below.alloc ?_ (by first | omega | (simp; done) | (simp; omega)) _ | refine Below.drew ?_ | refine Below.setCell ?_ (by first | omega | (simp; done) | (simp; omega)) _ | refine Below.trans ?_ (Below.mono (by assumption) (by first | omega | (simp; done) | (simp; omega))))))
  replace iE := iE.below (w' := w7) (by (repeat (first | exact Below.refl _ _ | refine Below.alloc ?_ (by first | omega | (simp; done) | (simp; omega)) _ | refine Below.drew ?_ | refine Below.setCell ?_ (by first | omega | (simp; done) | (simp; omega)) _ | refine Below.trans ?_ (Below.mono (by assumption) (by first | omega | (simp; done) | (simp; omega))))))
  have t7 : Below w.heap.size w w7 := Below.trans t6 (Below.mono (w := w6) (w' := w7) (by (repeat (first | exact Below.refl _ _ | refine Below.alloc ?_ (by first | omega | (simp; done) | (simp; omega)) _ | refine Below.drew ?_ | refine Below.setCell ?_ (by first | omega | (simp; done) | (simp; omega)) _ | refine Below.trans ?_ (Below.mono (by assumption) (by first | omega | (simp; done) | (simp; omega)))))) t6.size)
  clear kD dD iE
  go_wp2_with fail
  go_at_call 47
  refine (book_any _).mono ?_
  rintro e w8 ⟨hr, b8⟩
  replace iC := iC.below (w' := w8) (by (repeat (first | exact Below.refl _ _ | refine Below.alloc ?_ (by first | omega | (simp; done) | (simp; omega)) _ | refine Below.drew ?_ | refine Below.setCell ?_ (by first | omega | (simp; done) | (simp; omega)) _ | refine Below.trans ?_ (Below.mono (by assumption) (by first | omega | (simp; done) | (simp; omega))))))
  replace iP := iP.below (w' := w8) (by (repeat (first | exact Below.refl _ _ | refine Below.alloc ?_ (by first | omega | (simp; done) | (simp; omega)) _ | refine Below.drew ?_ | refine Below.setCell ?_ (by first | omega | (simp; done) | (simp; omega)) _ | refine Below.trans ?_ (Below.mono (by assumption) (by first | omega | (simp; done) | (simp; omega))))))
  replace iW := iW.below (w' := w8) (by (repeat (first | exact Below.refl _ _ | refine Below.alloc ?_ (by first | omega | (simp; done) | (simp; omega)) _ | refine Below.drew ?_ | refine Below.setCell ?_ (by first | omega | (simp; done) | (simp; omega)) _ | refine Below.trans ?_ (Below.mono (by assumption) (by first | omega | (simp; done) | (simp; omega))))))
  replace iX := iX.below (w' := w8) (by (repeat (first | exact Below.refl _ _ | refine Below.alloc ?_ (by first | omega | (simp; done) | (simp; omega)) _ | refine Below.drew ?_ | refine Below.setCell ?_ (by first | omega | (simp; done) | (simp; omega)) _ | refine Below.trans ?_ (Below.mono (by assumption) (by first | omega | (simp; done) | (simp; omega))))))
  have t8 : Below w.heap.size w w8 := Below.trans t7 (Below.mono (w := w7) (w' := w8) (by (repeat (first | exact Below.refl _ _ | refine Below.alloc ?_ (by first | omega | (simp; done) | (simp; omega)) _ | refine Below.drew ?_ | refine Below.setCell ?_ (by first | omega | (simp; done) | (simp; omega)) _ | refine Below.trans ?_ (Below.mono (by assumption) (by first | omega | (simp; done) | (simp; omega)))))) t7.size)
  obtain ⟨akF, ckF, adF, cdF, rfl, kF, dF⟩ := hr.out
  clear hr
  go_wp2_with fail
  go_at_call 48
  refine (early_any _).mono ?_
  rintro e w9 ⟨⟨aG, rfl, iG⟩, b9⟩
  replace iC := iC.below (w' := w9) (by (repeat (first | exact Below.refl _ _ | refine Below.alloc ?_ (by first | omega | (simp; done) | (simp; omega)) _ | refine Below.drew ?_ | refine Below.setCell ?_ (by first | omega | (simp; done) | (simp; omega)) _ | refine Below.trans ?_ (Below.mono (by assumption) (by first | omega | (simp; done) | (simp; omega))))))
  replace iP := iP.below (w' := w9) (by (repeat (first | exact Below.refl _ _ | refine Below.alloc ?_ (by first | omega | (simp; done) | (simp; omega)) _ | refine Below.drew ?_ | refine Below.setCell ?_ (by first | omega | (simp; done) | (simp; omega)) _ | refine Below.trans ?_ (Below.mono (by assumption) (by first | omega | (simp; done) | (simp; omega))))))
  replace iW := iW.below (w' := w9) (by (repeat (first | exact Below.refl _ _ | refine Below.alloc ?_ (by first | omega | (simp; done) | (simp; omega)) _ | refine Below.drew ?_ | refine Below.setCell ?_ (by first | omega | (simp; done) | (simp; omega)) _ | refine Below.trans ?_ (Below.mono (by assumption) (by first | omega | (simp; done) | (simp; omega))))))
  replace iX := iX.below (w' := w9) (by (repeat (first | exact Below.refl _ _ | refine Below.alloc ?_ (by first | omega | (simp; done) | (simp; omega)) _ | refine Below.drew ?_ | refine Below.setCell ?_ (by first | omega | (simp; done) | (simp; omega)) _ | refine Below.trans ?_ (Below.mono (by assumption) (by first | omega | (simp; done) | (simp; omega))))))
  replace kF := kF.below (w' := w9) (by (repeat (first | exact Below.refl _ _ | refine Below.alloc ?_ (by first | omega | (simp; done) | (simp; omega)) _ | refine Below.drew ?_ | refine Below.setCell ?_ (by first | omega | (simp; done) | (simp; omega)) _ | refine Below.trans ?_ (Below.mono (by assumption) (by first | omega | (simp; done) | (simp; omega))))))
  replace dF := dF.below (w' := w9) (by (repeat (first | exact Below.refl _ _ | refine Below.alloc ?_ (by first | omega | (simp; done) | (simp; omega)) _ | refine Below.drew ?_ | refine Below.setCell ?_ (by first | omega | (simp; done) | (simp; omega)) _ | refine Below.trans ?_ (Below.mono (by assumption) (by first | omega | (simp; done) | (simp; omega))))))
  have t9 : Below w.heap.size w w9 := Below.trans t8 (Below.mono (w := w8) (w' := w9) (by (repeat (first | exact Below.refl _ _ | refine Below.alloc ?_ (by first | omega | (simp; done) | (simp; omega)) _ | refine Below.drew ?_ | refine Below.setCell ?_ (by first | omega | (simp; done) | (simp; omega)) _ | refine Below.trans ?_ (Below.mono (by assumption) (by first | omega | (simp; done) | (simp; omega)))))) t8.size)
  go_wp2_with fail
  go_at_call 35
  refine (exPlan akF ckF adF cdF _ _ kF dF iG).mono ?_
  rintro e w10 ⟨⟨aL, cL, rfl, iL⟩, b10⟩
  replace iC := iC.below (w' := w10) (by (repeat (first | exact Below.refl _ _ | refine Below.alloc ?_ (by first | omega | (simp; done) | (simp; omega)) _ | refine Below.drew ?_ | refine Below.setCell ?_ (by first | omega | (simp; done) | (simp; omega)) _ | refine Below.trans ?_ (Below.mono (by assumption) (by first | omega | (simp; done) | (simp; omega))))))
  replace iP := iP.below (w' := w10) (by (repeat (first | exact Below.refl _ _ | refine Below.alloc ?_ (by first | omega | (simp; done) | (simp; omega)) _ | refine Below.drew ?_ | refine Below.setCell ?_ (by first | omega | (simp; done) | (simp; omega)) _ | refine Below.trans ?_ (Below.mono (by assumption) (by first | omega | (simp; done) | (simp; omega))))))
  replace iW := iW.below (w' := w10) (by (repeat (first | exact Below.refl _ _ | refine Below.alloc ?_ (by first | omega | (simp; done) | (simp; omega)) _ | refine Below.drew ?_ | refine Below.setCell ?_ (by first | omega | (simp; done) | (simp; omega)) _ | refine Below.trans ?_ (Below.mono (by assumption) (by first | omega | (simp; done) | (simp; omega))))))
  replace iX := iX.below (w' := w10) (by (repeat (first | exact Below.refl _ _ | refine Below.alloc ?_ (by first | omega | (simp; done) | (simp; omega)) _ | refine Below.drew ?_ | refine Below.setCell ?_ (by first | omega | (simp; done) | (simp; omega)) _ | refine Below.trans ?_ (Below.mono (by assumption) (by first | omega | (simp; done) | (simp; omega))))))
  replace kF := kF.below (w' := w10) (by (repeat (first | exact Below.refl _ _ | refine Below.alloc ?_ (by first | omega | (simp; done) | (simp; omega)) _ | refine Below.drew ?_ | refine Below.setCell ?_ (by first | omega | (simp; done) | (simp; omega)) _ | refine Below.trans ?_ (Below.mono (by assumption) (by first | omega | (simp; done) | (simp; omega))))))
  replace dF := dF.below (w' := w10) (by (repeat (first | exact Below.refl _ _ | refine Below.alloc ?_ (by first | omega | (simp; done) | (simp; omega)) _ | refine Below.drew ?_ | refine Below.setCell ?_ (by first | omega | (simp; done) | (simp; omega)) _ | refine Below.trans ?_ (Below.mono (by assumption) (by first | omega | (simp; done) | (simp; omega))))))
  replace iG := iG.below (w' := w10) (by (repeat (first | exact Below.refl _ _ | refine Below.alloc ?_ (by first | omega | (simp; done) | (simp; omega)) _ | refine Below.drew ?_ | refine Below.setCell ?_ (by first | omega | (simp; done) | (simp; omega)) _ | refine Below.trans ?_ (Below.mono (by assumption) (by first | omega | (simp; done) | (simp; omega))))))
  have t10 : Below w.heap.size w w10 := Below.trans t9 (Below.mono (w := w9) (w' := w10) (by (repeat (first | exact Below.refl _ _ | refine Below.alloc ?_ (by first | omega | (simp; done) | (simp; omega)) _ | refine Below.drew ?_ | refine Below.setCell ?_ (by first | omega | (simp; done) | (simp; omega)) _ | refine Below.trans ?_ (Below.mono (by assumption) (by first | omega | (simp; done) | (simp; omega)))))) t9.size)
  clear kF dF iG
  go_wp2_with fail
  go_at_call 47
  refine (book_any _).mono ?_
  rintro e w11 ⟨hr, b11⟩
  replace iC := iC.below (w' := w11) (by (repeat (first | exact Below.refl _ _ | refine Below.alloc ?_ (by first | omega | (simp; done) | (simp; omega)) _ | refine Below.drew ?_ | refine Below.setCell ?_ (by first | omega | (simp; done) | (simp; omega)) _ | refine Below.trans ?_ (Below.mono (by assumption) (by first | omega | (simp; done) | (simp; omega))))))
  replace iP := iP.below (w' := w11) (by (repeat (first | exact Below.refl _ _ | refine Below.alloc ?_ (by first | omega | (simp; done) | (simp; omega)) _ | refine Below.drew ?_ | refine Below.setCell ?_ (by first | omega | (simp; done) | (simp; omega)) _ | refine Below.trans ?_ (Below.mono (by assumption) (by first | omega | (simp; done) | (simp; omega))))))
  replace iW := iW.below (w' := w11) (by (repeat (first | exact Below.refl _ _ | refine Below.alloc ?_ (by first | omega | (simp; done) | (simp; omega)) _ | refine Below.drew ?_ | refine Below.setCell ?_ (by first | omega | (simp; done) | (simp; omega)) _ | refine Below.trans ?_ (Below.mono (by assumption) (by first | omega | (simp; done) | (simp; omega))))))
  replace iX := iX.below (w' := w11) (by (repeat (first | exact Below.refl _ _ | refine Below.alloc ?_ (by first | omega | (simp; done) | (simp; omega)) _ | refine Below.drew ?_ | refine Below.setCell ?_ (by first | omega | (simp; done) | (simp; omega)) _ | refine Below.trans ?_ (Below.mono (by assumption) (by first | omega | (simp; done) | (simp; omega))))))
  replace iL := iL.below (w' := w11) (by (repeat (first | exact Below.refl _ _ | refine Below.alloc ?_ (by first | omega | (simp; done) | (simp; omega)) _ | refine Below.drew ?_ | refine Below.setCell ?_ (by first | omega | (simp; done) | (simp; omega)) _ | refine Below.trans ?_ (Below.mono (by assumption) (by first | omega | (simp; done) | (simp; omega))))))
  have t11 : Below w.heap.size w w11 := Below.trans t10 (Below.mono (w := w10) (w' := w11) (by (repeat (first | exact Below.refl _ _ | refine Below.alloc ?_ (by first | omega | (simp; done) | (simp; omega)) _ | refine Below.drew ?_ | refine Below.setCell ?_ (by first | omega | (simp; done) | (simp; omega)) _ | refine Below.trans ?_ (Below.mono (by assumption) (by first | omega | (simp; done) | (simp; omega)))))) t10.size)
  obtain ⟨akH, ckH, adH, cdH, rfl, kH, dH⟩ := hr.out
  clear hr
  go_wp2_with fail
  go_at_call 40
  refine (exFits akH ckH adH cdH _ _ _ (kH.below (by (repeat (first | exact Below.refl _ _ | refine Below.alloc ?_ (by first | omega | (simp; done) | (simp; omega)) _ | refine Below.drew ?_ | refine Below.setCell ?_ (by first | omega | (simp; done) | (simp; omega)) _ | refine Below.trans ?_ (Below.mono (by assumption) (by first | omega | (simp; done) | (simp; omega))))))) (dH.below (by (repeat (first | exact Below.refl _ _ | refine Below.alloc ?_ (by first | omega | (simp; done) | (simp; omega)) _ | refine Below.drew ?_ | refine Below.setCell ?_ (by first | omega | (simp; done) | (simp; omega)) _ | refine Below.trans ?_ (Below.mono (by assumption) (by first | omega | (simp; done) | (simp; omega))))))) ((ints_lit w11 _ _ _ rfl).below (by (repeat (first | exact Below.refl _ _ | refine Below.alloc ?_ (by first | omega | (simp; done) | (simp; omega)) _ | refine Below.drew ?_ | refine Below.setCell ?_ (by first | omega | (simp; done) | (simp; omega)) _ | refine Below.trans ?_ (Below.mono (by assumption) (by first | omega | (simp; done) | (simp; omega))))))) (recs2_lit' (w11.alloc (.cells #[.int .i64 11, .int .i64 0, .int .i64 0] 3)) _ _ _ (w11.heap.size + 1) (by simp) rfl)).mono ?_
  rintro e w12 ⟨rfl, b12⟩
  replace iC := iC.below (w' := w12) (by (repeat (first | exact Below.refl _ _ | refine Below.alloc ?_ (by first | omega | (simp; done) | (simp; omega)) _ | refine Below.drew ?_ | refine Below.setCell ?_ (by first | omega | (simp; done) | (simp; omega)) _ | refine Below.trans ?_ (Below.mono (by assumption) (by first | omega | (simp; done) | (simp; omega))))))
  replace iP := iP.below (w' := w12) (by (repeat (first | exact Below.refl _ _ | refine Below.alloc ?_ (by first | omega | (simp; done) | (simp; omega)) _ | refine Below.drew ?_ | refine Below.setCell ?_ (by first | omega | (simp; done) | (simp; omega)) _ | refine Below.trans ?_ (Below.mono (by assumption) (by first | omega | (simp; done) | (simp; omega))))))
  replace iW := iW.below (w' := w12) (by (repeat (first | exact Below.refl _ _ | refine Below.alloc ?_ (by first | omega | (simp; done) | (simp; omega)) _ | refine Below.drew ?_ | refine Below.setCell ?_ (by first | omega | (simp; done) | (simp; omega)) _ | refine Below.trans ?_ (Below.mono (by assumption) (by first | omega | (simp; done) | (simp; omega))))))
  replace iX := iX.below (w' := w12) (by (repeat (first | exact Below.refl _ _ | refine Below.alloc ?_ (by first | omega | (simp; done) | (simp; omega)) _ | refine Below.drew ?_ | refine Below.setCell ?_ (by first | omega | (simp; done) | (simp; omega)) _ | refine Below.trans ?_ (Below.mono (by assumption) (by first | omega | (simp; done) | (simp; omega))))))
  replace iL := iL.below (w' := w12) (by (repeat (first | exact Below.refl _ _ | refine Below.alloc ?_ (by first | omega | (simp; done) | (simp; omega)) _ | refine Below.drew ?_ | refine Below.setCell ?_ (by first | omega | (simp; done) | (simp; omega)) _ | refine Below.trans ?_ (Below.mono (by assumption) (by first | omega | (simp; done) | (simp; omega))))))
  replace kH := kH.below (w' := w12) (by (repeat (first | exact Below.refl _ _ | refine Below.alloc ?_ (by first | omega | (simp; done) | (simp; omega)) _ | refine Below.drew ?_ | refine Below.setCell ?_ (by first | omega | (simp; done) | (simp; omega)) _ | refine Below.trans ?_ (Below.mono (by assumption) (by first | omega | (simp; done) | (simp; omega))))))
  replace dH := dH.below (w' := w12) (by (repeat (first | exact Below.refl _ _ | refine Below.alloc ?_ (by first | omega | (simp; done) | (simp; omega)) _ | refine Below.drew ?_ | refine Below.setCell ?_ (by first | omega | (simp; done) | (simp; omega)) _ | refine Below.trans ?_ (Below.mono (by assumption) (by first | omega | (simp; done) | (simp; omega))))))
  have t12 : Below w.heap.size w w12 := Below.trans t11 (Below.mono (w := w11) (w' := w12) (by (repeat (first | exact Below.refl _ _ | refine Below.alloc ?_ (by first | omega | (simp; done) | (simp; omega)) _ | refine Below.drew ?_ | refine Below.setCell ?_ (by first | omega | (simp; done) | (simp; omega)) _ | refine Below.trans ?_ (Below.mono (by assumption) (by first | omega | (simp; done) | (simp; omega)))))) t11.size)
  clear kH dH
  go_wp2_with fail
  go_at_call 25
  refine (same_eq aC [0, 11, 0, 0, 9] cC _ 5 _ (iC.below (by (repeat (first | exact Below.refl _ _ | refine Below.alloc ?_ (by first | omega | (simp; done) | (simp; omega)) _ | refine Below.drew ?_ | refine Below.setCell ?_ (by first | omega | (simp; done) | (simp; omega)) _ | refine Below.trans ?_ (Below.mono (by assumption) (by first | omega | (simp; done) | (simp; omega))))))) (ints_lit _ _ _ _ rfl) (by decide)).mono ?_
  rintro e w13 ⟨rfl, b13⟩
  replace iC := iC.below (w' := w13) (by (repeat (first | exact Below.refl _ _ | refine Below.alloc ?_ (by first | omega | (simp; done) | (simp; omega)) _ | refine Below.drew ?_ | refine Below.setCell ?_ (by first | omega | (simp; done) | (simp; omega)) _ | refine Below.trans ?_ (Below.mono (by assumption) (by first | omega | (simp; done) | (simp; omega))))))
  replace iP := iP.below (w' := w13) (by (repeat (first | exact Below.refl _ _ | refine Below.alloc ?_ (by first | omega | (simp; done) | (simp; omega)) _ | refine Below.drew ?_ | refine Below.setCell ?_ (by first | omega | (simp; done) | (simp; omega)) _ | refine Below.trans ?_ (Below.mono (by assumption) (by first | omega | (simp; done) | (simp; omega))))))
  replace iW := iW.below (w' := w13) (by (repeat (first | exact Below.refl _ _ | refine Below.alloc ?_ (by first | omega | (simp; done) | (simp; omega)) _ | refine Below.drew ?_ | refine Below.setCell ?_ (by first | omega | (simp; done) | (simp; omega)) _ | refine Below.trans ?_ (Below.mono (by assumption) (by first | omega | (simp; done) | (simp; omega))))))
  replace iX := iX.below (w' := w13) (by (repeat (first | exact Below.refl _ _ | refine Below.alloc ?_ (by first | omega | (simp; done) | (simp; omega)) _ | refine Below.drew ?_ | refine Below.setCell ?_ (by first | omega | (simp; done) | (simp; omega)) _ | refine Below.trans ?_ (Below.mono (by assumption) (by first | omega | (simp; done) | (simp; omega))))))
  replace iL := iL.below (w' := w13) (by (repeat (first | exact Below.refl _ _ | refine Below.alloc ?_ (by first | omega | (simp; done) | (simp; omega)) _ | refine Below.drew ?_ | refine Below.setCell ?_ (by first | omega | (simp; done) | (simp; omega)) _ | refine Below.trans ?_ (Below.mono (by assumption) (by first | omega | (simp; done) | (simp; omega))))))
  have t13 : Below w.heap.size w w13 := Below.trans t12 (Below.mono (w := w12) (w' := w13) (by (repeat (first | exact Below.refl _ _ | refine Below.alloc ?_ (by first | omega | (simp; done) | (simp; omega)) _ | refine Below.drew ?_ | refine Below.setCell ?_ (by first | omega | (simp; done) | (simp; omega)) _ | refine Below.trans ?_ (Below.mono (by assumption) (by first | omega | (simp; done) | (simp; omega)))))) t12.size)
  clear iC
  go_wp2_with fail
  go_at_call 25
  refine (same_eq aP [4, 11, 4] cP _ 3 _ (iP.below (by (repeat (first | exact Below.refl _ _ | refine Below.alloc ?_ (by first | omega | (simp; done) | (simp; omega)) _ | refine Below.drew ?_ | refine Below.setCell ?_ (by first | omega | (simp; done) | (simp; omega)) _ | refine Below.trans ?_ (Below.mono (by assumption) (by first | omega | (simp; done) | (simp; omega))))))) (ints_lit _ _ _ _ rfl) (by decide)).mono ?_
  rintro e w14 ⟨rfl, b14⟩
  replace iP := iP.below (w' := w14) (by (repeat (first | exact Below.refl _ _ | refine Below.alloc ?_ (by first | omega | (simp; done) | (simp; omega)) _ | refine Below.drew ?_ | refine Below.setCell ?_ (by first | omega | (simp; done) | (simp; omega)) _ | refine Below.trans ?_ (Below.mono (by assumption) (by first | omega | (simp; done) | (simp; omega))))))
  replace iW := iW.below (w' := w14) (by (repeat (first | exact Below.refl _ _ | refine Below.alloc ?_ (by first | omega | (simp; done) | (simp; omega)) _ | refine Below.drew ?_ | refine Below.setCell ?_ (by first | omega | (simp; done) | (simp; omega)) _ | refine Below.trans ?_ (Below.mono (by assumption) (by first | omega | (simp; done) | (simp; omega))))))
  replace iX := iX.below (w' := w14) (by (repeat (first | exact Below.refl _ _ | refine Below.alloc ?_ (by first | omega | (simp; done) | (simp; omega)) _ | refine Below.drew ?_ | refine Below.setCell ?_ (by first | omega | (simp; done) | (simp; omega)) _ | refine Below.trans ?_ (Below.mono (by assumption) (by first | omega | (simp; done) | (simp; omega))))))
  replace iL := iL.below (w' := w14) (by (repeat (first | exact Below.refl _ _ | refine Below.alloc ?_ (by first | omega | (simp; done) | (simp; omega)) _ | refine Below.drew ?_ | refine Below.setCell ?_ (by first | omega | (simp; done) | (simp; omega)) _ | refine Below.trans ?_ (Below.mono (by assumption) (by first | omega | (simp; done) | (simp; omega))))))
  have t14 : Below w.heap.size w w14 := Below.trans t13 (Below.mono (w := w13) (w' := w14) (by (repeat (first | exact Below.refl _ _ | refine Below.alloc ?_ (by first | omega | (simp; done) | (simp; omega)) _ | refine Below.drew ?_ | refine Below.setCell ?_ (by first | omega | (simp; done) | (simp; omega)) _ | refine Below.trans ?_ (Below.mono (by assumption) (by first | omega | (simp; done) | (simp; omega)))))) t13.size)
  clear iP
  go_wp2_with fail
  go_at_call 25
  refine (same_eq aW [4, 4] cW _ 2 _ (iW.below (by (repeat (first | exact Below.refl _ _ | refine Below.alloc ?_ (by first | omega | (simp; done) | (simp; omega)) _ | refine Below.drew ?_ | refine Below.setCell ?_ (by first | omega | (simp; done) | (simp; omega)) _ | refine Below.trans ?_ (Below.mono (by assumption) (by first | omega | (simp; done) | (simp; omega))))))) (ints_lit _ _ _ _ rfl) (by decide)).mono ?_
  rintro e w15 ⟨rfl, b15⟩
  replace iW := iW.below (w' := w15) (by (repeat (first | exact Below.refl _ _ | refine Below.alloc ?_ (by first | omega | (simp; done) | (simp; omega)) _ | refine Below.drew ?_ | refine Below.setCell ?_ (by first | omega | (simp; done) | (simp; omega)) _ | refine Below.trans ?_ (Below.mono (by assumption) (by first | omega | (simp; done) | (simp; omega))))))
  replace iX := iX.below (w' := w15) (by (repeat (first | exact Below.refl _ _ | refine Below.alloc ?_ (by first | omega | (simp; done) | (simp; omega)) _ | refine Below.drew ?_ | refine Below.setCell ?_ (by first | omega | (simp; done) | (simp; omega)) _ | refine Below.trans ?_ (Below.mono (by assumption) (by first | omega | (simp; done) | (simp; omega))))))
  replace iL := iL.below (w' := w15) (by (repeat (first | exact Below.refl _ _ | refine Below.alloc ?_ (by first | omega | (simp; done) | (simp; omega)) _ | refine Below.drew ?_ | refine Below.setCell ?_ (by first | omega | (simp; done) | (simp; omega)) _ | refine Below.trans ?_ (Below.mono (by assumption) (by first | omega | (simp; done) | (simp; omega))))))
  have t15 : Below w.heap.size w w15 := Below.trans t14 (Below.mono (w := w14) (w' := w15) (by (repeat (first | exact Below.refl _ _ | refine Below.alloc ?_ (by first | omega | (simp; done) | (simp; omega)) _ | refine Below.drew ?_ | refine Below.setCell ?_ (by first | omega | (simp; done) | (simp; omega)) _ | refine Below.trans ?_ (Below.mono (by assumption) (by first | omega | (simp; done) | (simp; omega)))))) t14.size)
  clear iW
  go_wp2_with fail
  go_at_call 25
  refine (same_eq aX [1, 1, -1] cX _ 3 _ (iX.below (by (repeat (first | exact Below.refl _ _ | refine Below.alloc ?_ (by first | omega | (simp; done) | (simp; omega)) _ | refine Below.drew ?_ | refine Below.setCell ?_ (by first | omega | (simp; done) | (simp; omega)) _ | refine Below.trans ?_ (Below.mono (by assumption) (by first | omega | (simp; done) | (simp; omega))))))) (ints_lit _ _ _ _ rfl) (by decide)).mono ?_
  rintro e w16 ⟨rfl, b16⟩
  replace iX := iX.below (w' := w16) (by (repeat (first | exact Below.refl _ _ | refine Below.alloc ?_ (by first | omega | (simp; done) | (simp; omega)) _ | refine Below.drew ?_ | refine Below.setCell ?_ (by first | omega | (simp; done) | (simp; omega)) _ | refine Below.trans ?_ (Below.mono (by assumption) (by first | omega | (simp; done) | (simp; omega))))))
  replace iL := iL.below (w' := w16) (by (repeat (first | exact Below.refl _ _ | refine Below.alloc ?_ (by first | omega | (simp; done) | (simp; omega)) _ | refine Below.drew ?_ | refine Below.setCell ?_ (by first | omega | (simp; done) | (simp; omega)) _ | refine Below.trans ?_ (Below.mono (by assumption) (by first | omega | (simp; done) | (simp; omega))))))
  have t16 : Below w.heap.size w w16 := Below.trans t15 (Below.mono (w := w15) (w' := w16) (by (repeat (first | exact Below.refl _ _ | refine Below.alloc ?_ (by first | omega | (simp; done) | (simp; omega)) _ | refine Below.drew ?_ | refine Below.setCell ?_ (by first | omega | (simp; done) | (simp; omega)) _ | refine Below.trans ?_ (Below.mono (by assumption) (by first | omega | (simp; done) | (simp; omega)))))) t15.size)
  clear iX
  go_wp2_with fail
  go_at_call 25
  refine (same_eq aL [0, 1, 1] cL _ 3 _ (iL.below (by (repeat (first | exact Below.refl _ _ | refine Below.alloc ?_ (by first | omega | (simp; done) | (simp; omega)) _ | refine Below.drew ?_ | refine Below.setCell ?_ (by first | omega | (simp; done) | (simp; omega)) _ | refine Below.trans ?_ (Below.mono (by assumption) (by first | omega | (simp; done) | (simp; omega))))))) (ints_lit _ _ _ _ rfl) (by decide)).mono ?_
  rintro e w17 ⟨rfl, b17⟩
  replace iL := iL.below (w' := w17) (by (repeat (first | exact Below.refl _ _ | refine Below.alloc ?_ (by first | omega | (simp; done) | (simp; omega)) _ | refine Below.drew ?_ | refine Below.setCell ?_ (by first | omega | (simp; done) | (simp; omega)) _ | refine Below.trans ?_ (Below.mono (by assumption) (by first | omega | (simp; done) | (simp; omega))))))
  have t17 : Below w.heap.size w w17 := Below.trans t16 (Below.mono (w := w16) (w' := w17) (by (repeat (first | exact Below.refl _ _ | refine Below.alloc ?_ (by first | omega | (simp; done) | (simp; omega)) _ | refine Below.drew ?_ | refine Below.setCell ?_ (by first | omega | (simp; done) | (simp; omega)) _ | refine Below.trans ?_ (Below.mono (by assumption) (by first | omega | (simp; done) | (simp; omega)))))) t16.size)
  clear iL
  go_wp2_with fail
  go_ret
  exact ⟨rfl, t17⟩
end Go.Proofs.Ytmplgcefhpobgaa

namespace Go.Proofs.Ytmplgcefhpobgaa
set_option linter.unusedVariables false
set_option linter.unusedSimpArgs false
set_option linter.unnecessarySimpa false
open Go.RowKit Go.Flow

theorem codeErr_ok {s wo : Int} {ks : List K3} {ds : List Int} {day : Int} {plain : List Int} (h : codeErr s wo ks ds day plain = 0) :
    bookErr s wo ks ds = 0 ∧ (0 ≤ day ∧ day < (ds.length : Int)) ∧ plain.length ≤ 10 ∧ plain.all (plainOk s) = true := by
  unfold codeErr at h
  split at h
  · omega
  · rename_i h1
    split at h
    · omega
    · split at h
      · omega
      · split at h
        · omega
        · rename_i h2 h3 h4
          exact ⟨by omega, by omega, by omega, by simpa using h4⟩

set_option maxRecDepth 100000 in
set_option maxHeartbeats 4000000 in
theorem refCode_any (s wo : Int) (ak : Option Addr) (ks : List (Int × Int × Int)) (ck : Nat) (ad : Option Addr) (ds : List Int) (cd : Nat) (day : Int) (ap : Option Addr) (plain : List Int) (cp : Nat) (w : World) (hk : Recs3At w ak ks) (hd : IntsAt w ad ds) (lk : ks.length ≤ 1000) (ld : ds.length ≤ 1000) (hp : IntsAt w ap plain) (hok : codeErr s wo ks ds day plain = 0) :
    Calls Try.prog 26 #[.agg #[.int .i64 s, .int .i64 wo, .slice ak ks.length ck, .slice ad ds.length cd], .int .i64 day, .slice ap plain.length cp] w fun e w' =>
      (∃ a c, e = .returned (.slice a (codeRes s ks ds day plain).length c) ∧ IntsAt w' a (codeRes s ks ds day plain)) ∧ Below w.heap.size w w' := by
  obtain ⟨hbk, hday, hpl, hpa⟩ := codeErr_ok hok
  obtain ⟨lk5, ld8, s0, s1, _, _, _, k0, d0, hka, hda⟩ := bookErr_ok hbk
  obtain ⟨d, rfl⟩ := Int.eq_ofNat_of_zero_le hday.1
  have hdl : d < ds.length := by omega
  have hdm := List.all_eq_true.1 hda ds[d] (List.getElem_mem hdl)
  obtain ⟨kk, hkk⟩ : ∃ kk : Nat, ds[d] = (kk : Int) := ⟨ds[d].toNat, by simp [ownOk] at hdm; omega⟩
  have hkl : kk < ks.length := by simp [ownOk] at hdm; omega
  have hko := List.all_eq_true.1 hka ks[kk] (List.getElem_mem hkl)
  have hkv : keyAt ks ds (d : Int) = ks[kk] := by simp [keyAt, hdl, hkk, hkl]
  have hiv : indN ks ds (d : Int) = (ds[d] + (d : Int)) % ks.length := by simp [indN, hdl]
  have hdB : ∀ x ∈ ds, 0 ≤ x ∧ x ≤ 1000 := fun x hx => by have := List.all_eq_true.1 hda x hx; simp [ownOk] at this; omega
  have hplB : ∀ (j : Nat) (h : j < plain.length), 0 ≤ plain[j] ∧ plain[j] ≤ 1000 := fun j h => by have := List.all_eq_true.1 hpa plain[j] (List.getElem_mem h); simp [plainOk] at this; omega
  obtain ⟨⟨m, a, st⟩, hkey⟩ : ∃ q : Int × Int × Int, ks[kk] = q := ⟨_, rfl⟩
  have hkb : 1 ≤ m ∧ m ≤ s - 1 ∧ 0 ≤ a ∧ a ≤ s - 1 ∧ 0 ≤ st ∧ st ≤ s - 1 := by rw [hkey] at hko; simp [keyOk] at hko; omega
  obtain ⟨z0, hz0⟩ : ∃ z, indN ks ds (d : Int) = z := ⟨_, rfl⟩
  have hz1 : 0 ≤ z0 ∧ z0 ≤ 1000 := by rw [← hz0, hiv]; exact ⟨Int.emod_nonneg _ (by omega), by have := Int.emod_lt_of_pos (ds[d] + (d : Int)) (show (0 : Int) < ks.length by omega); omega⟩
  obtain ⟨F, hF⟩ : ∃ F : Nat → Int, (fun i : Nat => codeN s m a st (plain.getD i 0) i) = F := ⟨_, rfl⟩
  have hFi : ∀ (j : Nat) (h : j < plain.length), codeN s m a st plain[j] j = F j := fun j h => by rw [← hF]; simp [h]
  have hFb : ∀ j, 0 ≤ F j ∧ F j ≤ 1000 := fun j => by
    rw [← hF]; have := codeN_b (s := s) (m := m) (a := a) (st := st) (n := plain.getD j 0) (i := (j : Int)) (by omega); simp only; omega
  have hres : codeRes s ks ds d plain = (z0 :: upTo F plain.length) ++ [checkN s (z0 :: upTo F plain.length)] := by
    unfold codeRes codesN
    rw [hkv, hkey, hz0]
    simp only [hF]
  have Hres := Lib.hid hres
  have hdI : (d : Int) < (ds.length : Int) := by omega
  have hkI : (kk : Int) < (ks.length : Int) := by omega
  have hind : ∀ W, Below w.heap.size w W → Calls Try.prog 63 #[.agg #[.int .i64 s, .int .i64 wo, .slice ak ks.length ck, .slice ad ds.length cd], .int .i64 d] W fun e w' => e = .returned (.int .i64 z0) ∧ Below W.heap.size W w' := fun W hW => by
    have := refIndicator_any s wo ak ks ck ad ds cd d W (hk.below hW) (hd.below hW) lk ld hdl k0 hdB
    rwa [← hiv, hz0] at this
  have Hkk := Lib.hid hkk
  have Hkey := Lib.hid hkey
  have HFi := Lib.hid hFi
  have HFb := Lib.hid hFb
  clear hres hkv hiv hdm hkk hko hkey hok hbk hka hda hpa hz0 hF hFi hFb
  go_enter Try.func26, Try.ntmps26
  go_wp2_with (go_at_call 63; refine (hind _ (by (repeat (first | exact Below.refl _ _ | refine Below.alloc ?_ (by first | omega | (simp; done) | (simp; omega)) _ | refine Below.drew ?_ | refine Below.setCell ?_ (by first | omega | (simp; done) | (simp; omega)) _ | refine Below.trans ?_ (Below.mono (by assumption) (by first | omega | (simp; done) | (simp; omega))))))).mono ?_; rintro e w1 ⟨rfl, hb1⟩)
  have hw1 : Below w.heap.size w w1 := by (repeat (first | exact Below.refl _ _ | refine Below.alloc ?_ (by first | omega | (simp; done) | (simp; omega)) _ | refine Below.drew ?_ | refine Below.setCell ?_ (by first | omega | (simp; done) | (simp; omega)) _ | refine Below.trans ?_ (Below.mono (by assumption) (by first | omega | (simp; done) | (simp; omega)))))
  have hb1' : Below (w.heap.size + 1) (w.alloc (.cells #[.int .i64 s, .int .i64 wo, .slice ak ks.length ck, .slice ad ds.length cd] 25)) w1 := hb1.mono (by simp)
  have o1 := OwnL.lit (E := 3) (size := 1) (base := w.heap.size + 1) (n := 1) (w := w1) #[.int .i64 z0] (by have := hb1'.size; simp at this; omega) (by decide) rfl
  have b2 : Below (w.heap.size + 1) (w.alloc (.cells #[.int .i64 s, .int .i64 wo, .slice ak ks.length ck, .slice ad ds.length cd] 25)) (w1.alloc (.cells #[.int .i64 z0] 3)) := hb1'.alloc (by have := hb1'.size; simp at this; omega) _
  obtain ⟨w2, hw2⟩ : ∃ x : World, x = w1.alloc (.cells #[.int .i64 z0] 3) := ⟨_, rfl⟩
  rw [← hw2] at o1 b2 ⊢
  clear hw2 hind
  go_loopw [7, 8] (fun v i wr => ∃ (k : Nat) (a' : Option Addr) (c' : Nat), k ≤ plain.length ∧ i = .int .i64 k ∧ v = .slice a' (1 + k) c' ∧ OwnL 3 1 (w.heap.size + 1) wr a' c' (1 + k) ((z0 :: upTo F k).map (Value.int .i64)) ∧
      Below (w.heap.size + 1) (w.alloc (.cells #[.int .i64 s, .int .i64 wo, .slice ak ks.length ck, .slice ad ds.length cd] 25)) wr) (fun _ i _ => plain.length - (intOf i).toNat)
  case atStart => exact ⟨0, _, _, Nat.zero_le _, rfl, rfl, o1, b2⟩
  case round =>
    obtain ⟨k, a', c', hkk', rfl, rfl, hown, hbr⟩ := hrel
    have hwr : Below w.heap.size w wr := Below.trans (by (repeat (first | exact Below.refl _ _ | refine Below.alloc ?_ (by first | omega | (simp; done) | (simp; omega)) _ | refine Below.drew ?_ | refine Below.setCell ?_ (by first | omega | (simp; done) | (simp; omega)) _ | refine Below.trans ?_ (Below.mono (by assumption) (by first | omega | (simp; done) | (simp; omega)))))) (hbr.mono (by omega))
    have hB := BookAt.of hbr
    have hz := hB.lt
    obtain ⟨q0, q1, q2, q3⟩ := hB
    by_cases hlt : k < plain.length
    · obtain ⟨b, off, rfl, hbl, c0⟩ := (hp.below hwr) k hlt
      obtain ⟨bd, offd, rfl, hbd, cd0⟩ := (hd.below hwr) d hdl
      obtain ⟨bk, offk, rfl, hbk, ck0, ck1, ck2⟩ := (hk.below hwr) kk hkl
      rw [Hkey.out] at ck0 ck1 ck2
      simp only at ck0 ck1 ck2
      have hx := hplB k hlt
      have HFk := Lib.hid (HFi.out k hlt)
      have c0' : wr.cell? ⟨b, off + k, none⟩ = some (.int .i64 plain[k]) := c0.trans (by simp [hlt])
      have cd0' : wr.cell? ⟨bd, offd + d, none⟩ = some (.int .i64 kk) := cd0.trans (by rw [← Hkk.out]; simp [hdl])
      obtain ⟨x, hxe⟩ : ∃ x, plain[k] = x := ⟨_, rfl⟩
      rw [hxe] at c0' hx HFk
      have hltI : (k : Int) < (plain.length : Int) := by omega
      clear c0 cd0 hxe
      have hcode : ∀ W, Calls Try.prog 64 #[.agg #[.int .i64 s, .int .i64 wo, .slice (some ⟨bk, offk, none⟩) ks.length ck, .slice (some ⟨bd, offd, none⟩) ds.length cd], .agg #[.int .i64 m, .int .i64 a, .int .i64 st], .int .i64 x, .int .i64 k] W fun e w' => e = .returned (.int .i64 (F k)) ∧ Below W.heap.size W w' := fun W => by
        have := codeOf_any s wo m a st x k (.slice (some ⟨bk, offk, none⟩) ks.length ck) (.slice (some ⟨bd, offd, none⟩) ds.length cd) W (by omega) (by omega) (by omega) (by omega) (by omega) (by omega) (by omega) (by omega) (by omega) (by omega) (by omega) (by omega)
        rwa [HFk.out] at this
      go_wp2
      (refine wp_region_seq 18 [] [18, 19] 44 [true, true, true, true, true, true, true, true, true, true, true, true, true, true, true, true, true, false] [LitV (w.heap.size + 1) 1 #[.int .i64 (F k)] 3] (by kernel_rfl) (by kernel_rfl) rfl (mono_cons (fun v w w' h hb => h.kept hb) mono_nil) ?_; simp only [pickOps, List.filterMap_cons, List.filterMap_nil, List.getElem?_toArray, List.getElem?_cons_succ, List.getElem?_cons_zero]; (repeat (refine wpFl_step _ rfl (fun w => (by go_simp; rfl)) ?_)); refine wpFl_nil ?_; simp only [maskOps, dummy, Act.put, List.setIfInBounds_toArray, List.set_cons_zero, List.set_cons_succ, List.take_succ_cons, List.take_zero, List.drop_succ_cons, List.drop_zero]; (repeat (refine wpQB_step (fun K hK => ?_); go_simp; first | (refine hK _ ?_; clear hK K) | (apply Exists.intro; refine ⟨fun ex => ?_, hK _ ?_⟩; ((go_at_call 64; exact hcode _)); clear hK K))); refine wpQB_nil ?_; simp only [relObl2, under, relEnd, and_true, List.nil_append, List.cons_append])
      exact ⟨fun e => by go_simp; exact ⟨(Below.refl _ _).alloc (Nat.le_refl _) _, e.to.heap.size, rfl, by have := e.size; omega, Cells.new _ _ _⟩, fun e => by
          rintro v1 ⟨gg, rfl, hg1, hgg⟩
          simp only [Act.put, List.setIfInBounds_toArray, List.set_cons_zero, List.set_cons_succ]
          have heb := e.below
          have hez := e.size
          have hown4 := hown.kept heb
          obtain ⟨w5, hw5⟩ : ∃ x : World, x = e.to := ⟨_, rfl⟩
          rw [← hw5] at heb hez hgg hown4 ⊢
          clear hw5
          refine wpList_app elInt rfl _ _ rfl (w.heap.size + 1) a' (1 + k) c' _ rfl hown4 (some ⟨gg, 0, none⟩) 1 1 _ rfl (fun h => by cases h) rfl hgg.src (fun u hu => by simp at hu; subst hu; rfl) (by unfold maxLen; omega) (by omega) (by omega) ?_
          intro a6 c6 w6 hown6 hb6
          go_wp2
          go_roundw
          case rel => exact ⟨k + 1, a6, c6, by omega, by go_num, by rw [Nat.add_assoc], by rw [upTo_succ]; simpa [Nat.add_assoc] using hown6, (hbr.trans (heb.mono (by omega))).trans hb6⟩
          case measure => simp [intOf]; omega⟩
    · obtain rfl : k = plain.length := by omega
      have hi := hown.ints.1
      have hL : (z0 :: upTo F plain.length).length = 1 + plain.length := by simp [upTo_len]; omega
      have hLb : ∀ x ∈ z0 :: upTo F plain.length, 0 ≤ x ∧ x ≤ 1000 := by
        intro x hx
        rcases List.mem_cons.1 hx with rfl | hx
        · exact hz1
        · simp only [upTo, List.mem_map] at hx
          obtain ⟨j, _, rfl⟩ := hx
          exact HFb.out j
      obtain ⟨L, hLe⟩ : ∃ L, z0 :: upTo F plain.length = L := ⟨_, rfl⟩
      rw [hLe] at hi hL hLb hown Hres
      rw [← hL] at hown ⊢
      have hLl : L.length ≤ 1000 := by omega
      clear hLe hL
      go_wp2_with (first
        | (go_at_call 65; refine (refCheck_any s wo _ _ a' L c' _ (by omega) (by omega) hi hLl hLb).mono ?_; rintro e w3 ⟨rfl, hb3⟩)
        | (at_builtin; refine wpList_app_lit elInt rfl _ _ rfl (w.heap.size + 1) _ _ _ _ rfl (hown.kept hb3) 1 1 rfl rfl (fun u hu => ?c1) ?c2 ?c3 ?c4 ?_))
      case c1 => simp at hu; subst hu; rfl
      case c2 => unfold maxLen; omega
      case c3 => omega
      case c4 => have := hb3.size; omega
      intro a6 c6 w6 hown6 hb6
      go_wp2
      go_ret
      have own7 : OwnL 3 1 (w.heap.size + 1) w6 a6 c6 (L.length + 1) ((L ++ [checkN s L]).map (Value.int .i64)) := by simpa using hown6
      refine ⟨⟨a6, c6, ?_, ?_⟩, ?_⟩
      · rw [Hres.out]; simp
      · rw [Hres.out]; exact own7.ints.1
      · exact (hwr.trans (hb3.mono hwr.size)).trans (hb6.mono (by omega))
end Go.Proofs.Ytmplgcefhpobgaa
