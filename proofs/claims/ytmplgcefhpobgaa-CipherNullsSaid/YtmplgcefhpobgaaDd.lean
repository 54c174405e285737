/- cipher: the law's conversions -/
import Derived.Test.YtmplgcefhpobgaaDc
import Derived.Test.YtmplgcefhpobgaaFlo
namespace Go.Proofs.Ytmplgcefhpobgaa
set_option linter.unusedVariables false
set_option linter.unusedSimpArgs false
set_option linter.unnecessarySimpa false
open Go.RowKit Go.Flow

theorem keyConv_any (m a st : Int) (w : World) :
    Calls Try.prog 55 #[.agg #[.int .i64 m, .int .i64 a, .int .i64 st]] w fun e w' => e = .returned (.agg #[.int .i64 m, .int .i64 a, .int .i64 st]) ∧ Below w.heap.size w w' := by
  go_enter Try.func55, Try.ntmps55
  go_wp2
  exact bodyPost_ret (v := .agg #[.int .i64 m, .int .i64 a, .int .i64 st]) (by simp [results, Try.results55, go_sem]) rfl ⟨rfl, by (repeat (first | exact Below.refl _ _ | refine Below.alloc ?_ (by first | omega | (simp; done) | (simp; omega)) _ | refine Below.drew ?_ | refine Below.setCell ?_ (by first | omega | (simp; done) | (simp; omega)) _ | refine Below.trans ?_ (Below.mono (by assumption) (by first | omega | (simp; done) | (simp; omega)))))⟩

theorem fault_any (s wo : Int) (ak : Option Addr) (ks : List (Int × Int × Int)) (ck : Nat) (ad : Option Addr) (ds : List Int) (cd : Nat) (w : World) (hk : Recs3At w ak ks) (hd : IntsAt w ad ds) (lk : ks.length ≤ 1000) (ld : ds.length ≤ 1000) :
    Calls Try.prog 22 #[.agg #[.int .i64 s, .int .i64 wo, .slice ak ks.length ck, .slice ad ds.length cd]] w fun e w' => e = .returned (.int .i64 (bookErr s wo ks ds)) ∧ Below w.heap.size w w' := by
  have hb : bookErr s wo ks ds = 0 ∨ bookErr s wo ks ds = 1 ∨ bookErr s wo ks ds = 3 := by
    unfold bookErr; split
    · simp
    · split <;> simp
  have x0 : 0 ≤ bookErr s wo ks ds := by omega
  have x1 : bookErr s wo ks ds ≤ 3 := by omega
  clear hb
  go_enter Try.func22, Try.ntmps22
  go_wp2_with (go_at_call 62; refine (refFault_any s wo ak ks ck ad ds cd _ (hk.below (by (repeat (first | exact Below.refl _ _ | refine Below.alloc ?_ (by first | omega | (simp; done) | (simp; omega)) _ | refine Below.drew ?_ | refine Below.setCell ?_ (by first | omega | (simp; done) | (simp; omega)) _ | refine Below.trans ?_ (Below.mono (by assumption) (by first | omega | (simp; done) | (simp; omega))))))) (hd.below (by (repeat (first | exact Below.refl _ _ | refine Below.alloc ?_ (by first | omega | (simp; done) | (simp; omega)) _ | refine Below.drew ?_ | refine Below.setCell ?_ (by first | omega | (simp; done) | (simp; omega)) _ | refine Below.trans ?_ (Below.mono (by assumption) (by first | omega | (simp; done) | (simp; omega))))))) lk ld).mono ?_; rintro e w1 ⟨rfl, hb1⟩; obtain ⟨hc1, hf1, hz1⟩ := bcell hb1; (try simp at hz1); (try (have hy0 : w.heap.size < w1.heap.size := by omega)); (try (have hy1 : w.heap.size + 1 < w1.heap.size := by omega)); (try (have hy2 : w.heap.size + 2 < w1.heap.size := by omega)))
  go_ret
  exact ⟨rfl, by (repeat (first | exact Below.refl _ _ | refine Below.alloc ?_ (by first | omega | (simp; done) | (simp; omega)) _ | refine Below.drew ?_ | refine Below.setCell ?_ (by first | omega | (simp; done) | (simp; omega)) _ | refine Below.trans ?_ (Below.mono (by assumption) (by first | omega | (simp; done) | (simp; omega)))))⟩

theorem thin_any (s wo : Int) (ak : Option Addr) (nk ck : Nat) (ad : Option Addr) (nd cd : Nat) (w : World) :
    Calls Try.prog 16 #[.agg #[.int .i64 s, .int .i64 wo, .slice ak nk ck, .slice ad nd cd]] w fun e w' => e = .returned (.bool (decide (nk ≤ 8) && decide (nd ≤ 11))) ∧ Below w.heap.size w w' := by
  by_cases h : (nk : Int) ≤ 8
  · have h1 : decide ((nk : Int) ≤ 8) = true := by simpa using h
    have e1 : decide (nk ≤ 8) = true := by simp; omega
    go_enter Try.func16, Try.ntmps16
    go_wp2
    go_ret
    have e2 : decide ((nd : Int) ≤ 11) = decide (nd ≤ 11) := by rw [decide_eq_decide]; omega
    refine ⟨by first | rfl | (rw [e1]; simp [← e2]), by (repeat (first | exact Below.refl _ _ | refine Below.alloc ?_ (by first | omega | (simp; done) | (simp; omega)) _ | refine Below.drew ?_ | refine Below.setCell ?_ (by first | omega | (simp; done) | (simp; omega)) _ | refine Below.trans ?_ (Below.mono (by assumption) (by first | omega | (simp; done) | (simp; omega)))))⟩
  · have h1 : decide ((nk : Int) ≤ 8) = false := by simpa using h
    have e1 : decide (nk ≤ 8) = false := by simp; omega
    go_enter Try.func16, Try.ntmps16
    go_wp2
    go_ret
    refine ⟨by first | rfl | (rw [e1]; rfl), by (repeat (first | exact Below.refl _ _ | refine Below.alloc ?_ (by first | omega | (simp; done) | (simp; omega)) _ | refine Below.drew ?_ | refine Below.setCell ?_ (by first | omega | (simp; done) | (simp; omega)) _ | refine Below.trans ?_ (Below.mono (by assumption) (by first | omega | (simp; done) | (simp; omega)))))⟩

theorem info_key : (Try.prog.info? 91).map (fun i => (i.zero, i.size, i.bytes)) = some (some (.agg #[.int .i64 0, .int .i64 0, .int .i64 0]), 3, 24) := by kernel_rfl
theorem elKey : Elem Try.prog 30 91 (.agg #[.int .i64 0, .int .i64 0, .int .i64 0]) 3 24 := ⟨Try.underlying30, info_parts info_key, rfl, by decide⟩

def flat3 (xs : List K3) : List Value := xs.flatMap fun x => [.int .i64 x.1, .int .i64 x.2.1, .int .i64 x.2.2]
theorem flat3_get : ∀ (xs : List K3) (k : Nat) (h : k < xs.length), (flat3 xs)[k * 3]? = some (.int .i64 xs[k].1) ∧ (flat3 xs)[k * 3 + 1]? = some (.int .i64 xs[k].2.1) ∧ (flat3 xs)[k * 3 + 2]? = some (.int .i64 xs[k].2.2)
  | x :: xs, 0, _ => by simp [flat3]
  | x :: xs, k + 1, h => by
    obtain ⟨a, b, c⟩ := flat3_get xs k (by simpa using h)
    have e : flat3 (x :: xs) = .int .i64 x.1 :: .int .i64 x.2.1 :: .int .i64 x.2.2 :: flat3 xs := by simp [flat3]
    rw [e, show (k + 1) * 3 = k * 3 + 3 by omega]
    exact ⟨a, b, c⟩
theorem flat3_snoc (xs : List K3) (x : K3) : flat3 (xs ++ [x]) = flat3 xs ++ [.int .i64 x.1, .int .i64 x.2.1, .int .i64 x.2.2] := by simp [flat3]
theorem OwnL.recs3 {T : TypeId} {base : Nat} {w : World} {a : Option Addr} {c n : Nat} {xs : List K3} (h : OwnL T 3 base w a c n (flat3 xs)) : Recs3At w a xs := fun k hk => by
  rcases h.form with ⟨_, _, _, h4⟩ | ⟨g, rfl, _, hlt, _, _, _, hc⟩
  · have := (flat3_get xs k hk).1; rw [h4] at this; simp at this
  · obtain ⟨e0, e1, e2⟩ := flat3_get xs k hk
    exact ⟨g, 0, rfl, hlt, by rw [Nat.zero_add]; exact hc _ _ e0, by rw [Nat.zero_add]; exact hc _ _ e1, by rw [Nat.zero_add]; exact hc _ _ e2⟩

def RetBook (B : Nat) (s wo : Int) (ks : List K3) (ds : List Int) (e : Ending) (w' : World) : Prop := ∃ ak ck ad cd, e = .returned (.agg #[.int .i64 s, .int .i64 wo, .slice ak ks.length ck, .slice ad ds.length cd]) ∧ OwnL 91 3 B w' ak ck ks.length (flat3 ks) ∧ OwnL 3 1 B w' ad cd ds.length (ds.map (Value.int .i64))

theorem cell_alloc_old (w : World) (o : Obj) (a : Addr) (h : a.block < w.heap.size) : (w.alloc o).cell? a = w.cell? a := ((Below.refl w.heap.size w).alloc (Nat.le_refl _) o).cell h
theorem ck_alloc {w : World} {o : Obj} {a : Addr} {v : Value} (h : w.cell? a = some v) : (w.alloc o).cell? a = some v := below_cell ((Below.refl w.heap.size w).alloc (Nat.le_refl _) o) h
theorem ck_drew {w : World} {a : Addr} {v : Value} (h : w.cell? a = some v) : w.drew.cell? a = some v := h
theorem ck_set {w : World} {p a : Addr} {u v : Value} (hne : a.block ≠ p.block) (h : w.cell? a = some v) : (w.setCell p u).cell? a = some v := by
  rw [World.cell?_setCell_other _ _ _ _ (fun e => hne (by rw [e]))]; exact h
/-- A block of cells, known whole. -/
def Cells (w : World) (g : Nat) (cs : Array Value) (T : TypeId) : Prop := w.heap[g]? = some (.cells cs T (0, 0))
theorem Cells.lt {w : World} {g : Nat} {cs : Array Value} {T : TypeId} (h : Cells w g cs T) : g < w.heap.size := (Array.getElem?_eq_some_iff.1 h).1
theorem Cells.cell {w : World} {g : Nat} {cs : Array Value} {T : TypeId} (h : Cells w g cs T) (k : Nat) : w.cell? ⟨g, k, none⟩ = cs[k]? := by simp [World.cell?, show w.heap[g]? = _ from h]
theorem Cells.frozen {w : World} {g : Nat} {cs : Array Value} {T : TypeId} (h : Cells w g cs T) (k : Nat) : w.frozen? ⟨g, k, none⟩ = false := by simp [World.frozen?, show w.heap[g]? = _ from h]
theorem Cells.new (w : World) (cs : Array Value) (T : TypeId) : Cells (w.alloc (.cells cs T)) w.heap.size cs T := World.alloc_heap_new w _
theorem Cells.below {w w' : World} {g : Nat} {cs : Array Value} {T : TypeId} (h : Cells w g cs T) (hb : Below w.heap.size w w') : Cells w' g cs T := (hb.block g h.lt).trans h
theorem Cells.set {w : World} {g : Nat} {cs : Array Value} {T : TypeId} (h : Cells w g cs T) (k : Nat) (v : Value) : Cells (w.setCell ⟨g, k, none⟩ v) g (cs.setIfInBounds k v) T := by
  obtain ⟨hlt, hk⟩ := Array.getElem?_eq_some_iff.1 h
  show (w.heap.modify g _)[g]? = _
  rw [Array.getElem?_eq_getElem (by rw [Array.size_modify]; exact hlt), Array.getElem_modify_self, hk]
  rfl
theorem Cells.grown {w w' : World} {row : Option Nat} {g : Nat} {cs : Array Value} {T : TypeId} (h : Cells w g cs T) (hg : w.grownBy w' row) (hne : some g ≠ row) : Cells w' g cs T := (hg.block g h.lt hne).trans h
theorem Cells.not_row {w : World} {g : Nat} {cs : Array Value} {T : TypeId} (h : Cells w g cs T) {E : TypeId} (hte : T ≠ E) {size base n c : Nat} {a : Option Addr} {xs : List Value} (hr : OwnL E size base w a c n xs) : some g ≠ (Value.slice a n c).ownBlock := by
  rcases hr.2 with ⟨h1, _⟩ | ⟨g', cap, cur, h1, _, hgb, _⟩
  · rw [h1]; simp [Value.ownBlock]
  · rw [h1]
    intro e'
    obtain rfl : g = g' := by simpa [Value.ownBlock] using e'
    have := (show w.heap[g]? = _ from h).symm.trans hgb
    simp at this
    exact hte this.2

theorem Cells.src {w : World} {g : Nat} {cs : Array Value} {T : TypeId} (h : Cells w g cs T) : SrcAt w (some ⟨g, 0, none⟩) cs.toList := fun j u hu => ⟨g, 0, rfl, by rw [Nat.zero_add, h.cell]; simpa using hu⟩
/-- a pointer to a new block -/
def PtrV (B : Nat) (cs : Array Value) (T : TypeId) (v : Value) (w : World) : Prop := ∃ g, v = .pointer (some ⟨g, 0, none⟩) ∧ B ≤ g ∧ Cells w g cs T
theorem PtrV.kept {B : Nat} {cs : Array Value} {T : TypeId} {v : Value} {w w' : World} (h : PtrV B cs T v w) (hb : Below w.heap.size w w') : PtrV B cs T v w' := let ⟨g, h1, h2, h3⟩ := h; ⟨g, h1, h2, h3.below hb⟩
/-- a literal slice in a new block -/
def LitV (B n : Nat) (cs : Array Value) (T : TypeId) (v : Value) (w : World) : Prop := ∃ g, v = .slice (some ⟨g, 0, none⟩) n n ∧ B ≤ g ∧ Cells w g cs T
theorem LitV.kept {B n : Nat} {cs : Array Value} {T : TypeId} {v : Value} {w w' : World} (h : LitV B n cs T v w) (hb : Below w.heap.size w w') : LitV B n cs T v w' := let ⟨g, h1, h2, h3⟩ := h; ⟨g, h1, h2, h3.below hb⟩

theorem OwnL.moved {E : TypeId} {size base : Nat} {w w' : World} {a : Option Addr} {c n : Nat} {xs : List Value} {g : Nat} (h : OwnL E size base w a c n xs) (hz : w.heap.size ≤ w'.heap.size) (hb : ∀ b, b ≠ g → w'.heap[b]? = w.heap[b]?) (hne : some g ≠ (Value.slice a n c).ownBlock) : OwnL E size base w' a c n xs := by
  refine ⟨h.1, ?_⟩
  rcases h.2 with hn | ⟨g', cap, cur, hv, hbg, hg, rest⟩
  · exact .inl hn
  · refine .inr ⟨g', cap, cur, hv, hbg, ?_, rest⟩
    rw [hb g' (fun e => hne (by rw [hv, e]; rfl))]
    exact hg
section
variable {P : Program} {t E : TypeId} {z : Value} {size bytes : Nat} {w : World} {ops : Array Oper} {rest : List Oper} {o : Oper} {a : Act} {Q : Exit → Act → World → Prop}
/-- 'append': nothing turns but the list's own row. -/
theorem wpList_app_g (el : Elem P t E z size bytes) (hgd : o.guard = none) (s x : Operand) (ho : o.op = .call { callee := .builtin .append, args := #[s, x], argTypes := #[t, t] })
    (base : Nat) (a0 : Option Addr) (n c0 : Nat) (xs : List Value) (hs : a.eval s = .slice a0 n c0) (hown : OwnL E size base w a0 c0 n xs)
    (ao : Option Addr) (m c : Nat) (news : List Value) (hx : a.eval x = .slice ao m c) (hnone : ao = none → m = 0 ∧ c = 0) (hl : news.length = m * size) (hsrc : SrcAt w ao news) (h1 : ∀ u ∈ news, u.oneCell' = true)
    (h63 : n + m ≤ maxLen) (hbytes : (n + m) * bytes ≤ 140737488355328) (hbase : base ≤ w.heap.size)
    (h : ∀ a' c' w', OwnL E size base w' a' c' (n + m) (xs ++ news) → Below base w w' → w.grownBy w' (Value.slice a0 n c0).ownBlock → wpList P ops Q rest (a.put o.dst (.slice a' (n + m) c')) w') : wpList P ops Q (o :: rest) a w := by
  obtain ⟨i, hi, hz0, hz1, hz2⟩ := el.info
  cases ao with
  | none =>
    obtain ⟨rfl, rfl⟩ := hnone rfl
    have hn0 : news = [] := List.eq_nil_of_length_eq_zero (by simpa using hl)
    subst hn0
    refine wpList_plain hgd fun K hK => ?_
    have hrun := run_append_owned_none (P := P) (w := w) base t o.type E i size el.slice hi _ n xs hown
    unfold Oper.wp
    simp only [execOp, ho, resolve, invoke, builtin, Sem.run_bind, Sem.run_pure, Result.andThen_ok, List.map_toArray, List.map_cons, List.map_nil, hs, hx, hrun]
    exact hK _ _ (h a0 c0 w (by simpa using hown) (Below.refl _ _) (World.grownBy.refl _ _))
  | some ad =>
    have hnews : ∀ j u, news[j]? = some u → w.cell? (ad.add j) = some u := fun j u hu => by
      obtain ⟨b, off, ha, hc⟩ := hsrc j u hu
      obtain rfl := Option.some.inj ha
      rw [addr_add]; exact hc
    refine wpList_append_own w hgd s x t ho base E i z size bytes el.slice hi hz0 hz1 hz2 el.cells el.pos (.slice a0 n c0) n xs hs hown ad m c news hx hl hnews h1 h63 hbytes hbase ?_
    intro v' w' h2 h3 h4
    have hv : ∃ a' c', v' = .slice a' (n + m) c' := by
      rcases h2.2 with ⟨rfl, hnm⟩ | ⟨g, cap, cur, rfl, _⟩
      · exact ⟨none, 0, by rw [hnm]⟩
      · exact ⟨_, _, rfl⟩
    obtain ⟨a', c', rfl⟩ := hv
    exact h a' c' w' h2 (below_of_grown hown hbase h3) h3
end
theorem OwnL.grown {E : TypeId} {size base : Nat} {w w' : World} {a : Option Addr} {c n : Nat} {xs : List Value} {row : Option Nat} (h : OwnL E size base w a c n xs) (hg : w.grownBy w' row) (hne : ∀ g, row = some g → (Value.slice a n c).ownBlock ≠ some g) : OwnL E size base w' a c n xs := by
  refine ⟨h.1, ?_⟩
  rcases h.2 with hn | ⟨g', cap, cur, hv, hbg, hg', rest⟩
  · exact .inl hn
  · refine .inr ⟨g', cap, cur, hv, hbg, ?_, rest⟩
    rw [hg.block g' (Array.getElem?_eq_some_iff.1 hg').1 (fun e => hne g' e.symm (by rw [hv]; rfl))]
    exact hg'
/-- Rows of two element types lie apart. -/
theorem OwnL.apart {E E' : TypeId} (hE : E ≠ E') {size size' base base' : Nat} {w : World} {a a' : Option Addr} {c n c' n' : Nat} {xs xs' : List Value} (h : OwnL E size base w a c n xs) (k : OwnL E' size' base' w a' c' n' xs') : ∀ g, (Value.slice a' n' c').ownBlock = some g → (Value.slice a n c).ownBlock ≠ some g := by
  intro g hg hg2
  rcases h.2 with ⟨h1, _⟩ | ⟨g1, cap, cur, h1, _, hgb, _⟩
  · rw [h1] at hg2; simp [Value.ownBlock] at hg2
  · rcases k.2 with ⟨k1, _⟩ | ⟨g2, cap2, cur2, k1, _, kgb, _⟩
    · rw [k1] at hg; simp [Value.ownBlock] at hg
    · rw [h1] at hg2; rw [k1] at hg
      simp [Value.ownBlock] at hg hg2
      subst hg; subst hg2
      rw [hgb] at kgb
      simp at kgb
      exact hE kgb.2
theorem results_cell1 {fn : Func} {c : Tmp} {T : TypeId} {tmps : Array Value} {P : Program} {w : World} {a : Addr} {v : Value} (h : fn.results = #[.cell c T]) (ha : tmps.getD c undef = .pointer (some a))
    (hv : (loadVar T a).run P w = .ok v w) : (results fn tmps).run P w = .ok v w := by
  rw [Array.getD_eq_getD_getElem?] at ha
  simp [results, h, ha, asAddr, hv]
theorem load_book {w : World} {b : Nat} {v0 v1 v2 v3 : Value} (h : Cells w b #[v0, v1, v2, v3] 32) :
    (loadVar 32 ⟨b, 0, none⟩).run Try.prog w = .ok (.agg #[v0, v1, v2, v3]) w := by
  have hi := Try.isAgg32
  have hs := Try.sizeOf32
  have k0 := h.cell 0
  have k1 := h.cell 1
  have k2 := h.cell 2
  have k3 := h.cell 3
  simp at k0 k1 k2 k3
  unfold loadVar
  go_simp
theorem flat3_take (xs : List K3) (k : Nat) (h : k < xs.length) : flat3 (xs.take (k + 1)) = flat3 (xs.take k) ++ [.int .i64 xs[k].1, .int .i64 xs[k].2.1, .int .i64 xs[k].2.2] := by
  rw [List.take_succ_eq_append_getElem h, flat3_snoc]
def BookV (B : Nat) (s wo : Int) (ds : List Int) (v : Value) (w : World) : Prop := ∃ a c, v = .agg #[.int .i64 s, .int .i64 wo, .slice none 0 0, .slice a ds.length c] ∧ OwnL 3 1 B w a c ds.length (ds.map (Value.int .i64))
theorem BookV.kept {B : Nat} {s wo : Int} {ds : List Int} {v : Value} {w w' : World} (h : BookV B s wo ds v w) (hb : Below w.heap.size w w') : BookV B s wo ds v w' := let ⟨a, c, h1, h2⟩ := h; ⟨a, c, h1, h2.kept hb⟩

set_option maxRecDepth 100000 in
set_option maxHeartbeats 4000000 in
theorem bookConv_any (s wo : Int) (ak : Option Addr) (ks : List (Int × Int × Int)) (ck : Nat) (ad : Option Addr) (ds : List Int) (cd : Nat) (w : World) (hk : Recs3At w ak ks) (hd : IntsAt w ad ds) (lk : ks.length ≤ 1000) (ld : ds.length ≤ 1000) (ln : ad = none → cd = 0) :
    Calls Try.prog 19 #[.agg #[.int .i64 s, .int .i64 wo, .slice ak ks.length ck, .slice ad ds.length cd]] w fun e w' => RetBook w.heap.size s wo ks ds e w' ∧ Below w.heap.size w w' := by
  have qB := BookAt.new w s wo ak ks.length ck ad ds.length cd 25
  go_enter Try.func19, Try.ntmps19
  go_wp2
  obtain ⟨W0, hW0⟩ : ∃ x : World, x = (w.alloc (.cells #[.int .i64 s, .int .i64 wo, .slice ak ks.length ck, .slice ad ds.length cd] 25)).alloc (.cells #[.int .i64 0, .int .i64 0, .slice none 0 0, .slice none 0 0] 32) := ⟨_, rfl⟩
  have hb0 : Below w.heap.size w W0 := by rw [hW0]; (repeat (first | exact Below.refl _ _ | refine Below.alloc ?_ (by first | omega | (simp; done) | (simp; omega)) _ | refine Below.drew ?_ | refine Below.setCell ?_ (by first | omega | (simp; done) | (simp; omega)) _ | refine Below.trans ?_ (Below.mono (by assumption) (by first | omega | (simp; done) | (simp; omega)))))
  have hz0 : W0.heap.size = w.heap.size + 1 + 1 := by rw [hW0]; simp
  have hB0 : BookAt W0 w.heap.size s wo ak ks.length ck ad ds.length cd := by rw [hW0]; exact qB.below ((Below.refl _ _).alloc (Nat.le_refl _) _)
  have hr0 : Cells W0 (w.heap.size + 1) #[.int .i64 0, .int .i64 0, .slice none 0 0, .slice none 0 0] 32 := by
    rw [hW0]
    have := Cells.new (w.alloc (.cells #[.int .i64 s, .int .i64 wo, .slice ak ks.length ck, .slice ad ds.length cd] 25)) #[.int .i64 0, .int .i64 0, .slice none 0 0, .slice none 0 0] 32
    rwa [show (w.alloc (.cells #[.int .i64 s, .int .i64 wo, .slice ak ks.length ck, .slice ad ds.length cd] 25)).heap.size = w.heap.size + 1 by simp] at this
  rw [← hW0]
  clear hW0 qB
  obtain ⟨q0, q1, q2, q3⟩ := hB0
  have lB : w.heap.size < W0.heap.size := by omega
  (refine wp_region_seq 9 [] [9] 32 [true, true, true, true, true, true, false, false, false] [OwnV 3 1 (w.heap.size + 2) ds.length (ds.map (Value.int .i64)), BookV (w.heap.size + 2) s wo ds, PtrV (w.heap.size + 2) #[.int .i64 0, .int .i64 0, .slice none 0 0, .slice none 0 0] 32] (by kernel_rfl) (by kernel_rfl) rfl (mono_cons (fun v w w' h hb => h.kept hb) (mono_cons (fun v w w' h hb => h.kept hb) (mono_cons (fun v w w' h hb => h.kept hb) mono_nil))) ?_; simp only [pickOps, List.filterMap_cons, List.filterMap_nil, List.getElem?_toArray, List.getElem?_cons_succ, List.getElem?_cons_zero]; (repeat (refine wpFl_step _ rfl (fun w => (by go_simp; rfl)) ?_)); refine wpFl_nil ?_; simp only [maskOps, dummy, Act.put, List.setIfInBounds_toArray, List.set_cons_zero, List.set_cons_succ, List.take_succ_cons, List.take_zero, List.drop_succ_cons, List.drop_zero]; (repeat (refine wpQB_step (fun K hK => ?_); go_simp; first | (refine hK _ ?_; clear hK K) | (apply Exists.intro; refine ⟨fun ex => ?_, hK _ ?_⟩; (fail); clear hK K))); refine wpQB_nil ?_; simp only [relObl2, under, relEnd, and_true, List.nil_append, List.cons_append])
  refine ⟨⟨fun e => ?_, fun e v1 h1 => ?_, fun e v1 _ v2 _ => ?_⟩, fun e => ?_⟩
  · go_simp
    have heb := e.below
    refine (list_any ad ds cd e.to (hd.below (hb0.trans (heb.mono hb0.size))) (by omega) ln).mono ?_
    rintro r w' ⟨a1, c1, rfl, o1, hb⟩
    exact ⟨hb, a1, c1, rfl, o1.base_le (by have := e.size; omega)⟩
  · obtain ⟨a1, c1, rfl, o1⟩ := h1 (by kernel_rfl)
    go_simp
    exact ⟨Below.refl _ _, a1, c1, rfl, o1⟩
  · go_simp
    exact ⟨(Below.refl _ _).alloc (Nat.le_refl _) _, e.to.heap.size, rfl, by have := e.size; omega, Cells.new _ _ _⟩
  rintro v1 _ v2 ⟨a1, c1, rfl, o1⟩ v3 ⟨g, rfl, hg0, hgc⟩
  simp only [Act.put, List.setIfInBounds_toArray, List.set_cons_zero, List.set_cons_succ]
  have heb := e.below
  have hez := e.size
  obtain ⟨w1, hw1⟩ : ∃ x : World, x = e.to := ⟨_, rfl⟩
  rw [← hw1] at heb hez hgc o1 ⊢
  clear hw1
  have gl := hgc.lt
  have gc0 := hgc.cell 0
  have gc1 := hgc.cell 1
  have gc2 := hgc.cell 2
  have gc3 := hgc.cell 3
  have gf0 := hgc.frozen 0
  have gf1 := hgc.frozen 1
  have gf2 := hgc.frozen 2
  have gf3 := hgc.frozen 3
  simp at gc0 gc1 gc2 gc3
  go_wp2
  have hgc2 := (((hgc.set 0 (.int .i64 s)).set 1 (.int .i64 wo)).set 2 (.slice none 0 0)).set 3 (.slice a1 ds.length c1)
  obtain ⟨wL, hwL⟩ : ∃ x : World, x = (((w1.setCell ⟨g, 0, none⟩ (.int .i64 s)).setCell ⟨g, 1, none⟩ (.int .i64 wo)).setCell ⟨g, 2, none⟩ (.slice none 0 0)).setCell ⟨g, 3, none⟩ (.slice a1 ds.length c1) := ⟨_, rfl⟩
  have hbL : Below (w.heap.size + 2) W0 wL := by
    rw [hwL]
    exact ((((heb.mono (by omega)).setCell (p := ⟨g, 0, none⟩) hg0 _).setCell (p := ⟨g, 1, none⟩) hg0 _).setCell (p := ⟨g, 2, none⟩) hg0 _).setCell (p := ⟨g, 3, none⟩) hg0 _
  have o1' := o1.moved (w' := wL) (by rw [hwL]; simp) (fun b hb => by rw [hwL, Below.heap_setCell _ _ _ _ hb, Below.heap_setCell _ _ _ _ hb, Below.heap_setCell _ _ _ _ hb, Below.heap_setCell _ _ _ _ hb]) (hgc.not_row (by decide) o1)
  rw [← hwL] at hgc2 ⊢
  clear hwL gc0 gc1 gc2 gc3 gf0 gf1 gf2 gf3 hgc gl heb hez o1 q0 q1 q3
  go_loopw [4] (fun i wr => ∃ (k : Nat) (a' : Option Addr) (c' : Nat), k ≤ ks.length ∧ i = .int .i64 k ∧ Cells wr g #[.int .i64 s, .int .i64 wo, .slice a' k c', .slice a1 ds.length c1] 32 ∧
        OwnL 91 3 (w.heap.size + 2) wr a' c' k (flat3 (ks.take k)) ∧ OwnL 3 1 (w.heap.size + 2) wr a1 c1 ds.length (ds.map (Value.int .i64)) ∧ Below (w.heap.size + 2) W0 wr)
      (fun i _ => ks.length - (intOf i).toNat)
  case atStart => exact ⟨0, none, 0, Nat.zero_le _, rfl, hgc2, OwnL.nil _ _ _ _, o1', hbL⟩
  case round =>
    obtain ⟨k, a', c', hkk, rfl, hcs2, hown2, hown3, hb3⟩ := hrel
    have hwr : Below w.heap.size w wr := hb0.trans (hb3.mono (by omega))
    have r2 : wr.cell? ⟨w.heap.size, 2, none⟩ = some (.slice ak ks.length ck) := (hb3.cell (p := ⟨w.heap.size, 2, none⟩) (by simp)).trans q2
    have g2 : wr.cell? ⟨g, 2, none⟩ = some (.slice a' k c') := hcs2.cell 2
    have gl := hcs2.lt
    have wl := cell_lt r2
    simp only at wl
    by_cases hlt : k < ks.length
    · obtain ⟨b, off, rfl, hbl, c0, c1, c2⟩ := (hk.below hwr) k hlt
      have hltI : (k : Int) < (ks.length : Int) := by omega
      obtain ⟨⟨m, a, st⟩, hx⟩ : ∃ x, ks[k] = x := ⟨_, rfl⟩
      rw [hx] at c0 c1 c2
      simp only at c0 c1 c2
      have Hx := Lib.hid hx
      clear hx
      go_wp2
      (refine wp_region_seq 9 [] [9, 10, 11] 32 [true, true, true, true, true, true, true, true, false] [LitV (w.heap.size + 2) 1 #[.int .i64 m, .int .i64 a, .int .i64 st] 91] (by kernel_rfl) (by kernel_rfl) rfl (mono_cons (fun v w w' h hb => h.kept hb) mono_nil) ?_; simp only [pickOps, List.filterMap_cons, List.filterMap_nil, List.getElem?_toArray, List.getElem?_cons_succ, List.getElem?_cons_zero]; (repeat (refine wpFl_step _ rfl (fun w => (by go_simp; rfl)) ?_)); refine wpFl_nil ?_; simp only [maskOps, dummy, Act.put, List.setIfInBounds_toArray, List.set_cons_zero, List.set_cons_succ, List.take_succ_cons, List.take_zero, List.drop_succ_cons, List.drop_zero]; (repeat (refine wpQB_step (fun K hK => ?_); go_simp; first | (refine hK _ ?_; clear hK K) | (apply Exists.intro; refine ⟨fun ex => ?_, hK _ ?_⟩; ((go_at_call 55; exact keyConv_any m a st _)); clear hK K))); refine wpQB_nil ?_; simp only [relObl2, under, relEnd, and_true, List.nil_append, List.cons_append])
      · exact ⟨fun e => by go_simp; exact ⟨(Below.refl _ _).alloc (Nat.le_refl _) _, e.to.heap.size, rfl, by have := e.size; have := hb3.size; omega, Cells.new _ _ _⟩, fun e => by
          rintro v1 ⟨gg, rfl, hg1, hgg⟩
          simp only [Act.put, List.setIfInBounds_toArray, List.set_cons_zero, List.set_cons_succ]
          have heb := e.below
          have hez := e.size
          have hcs3 := hcs2.below heb
          have hown4 := hown2.kept heb
          have hown5 := hown3.kept heb
          obtain ⟨w5, hw5⟩ : ∃ x : World, x = e.to := ⟨_, rfl⟩
          rw [← hw5] at heb hez hgg hcs3 hown4 hown5 ⊢
          clear hw5
          refine wpList_app_g elKey rfl _ _ rfl (w.heap.size + 2) a' k c' _ rfl hown4 (some ⟨gg, 0, none⟩) 1 1 _ rfl (fun h => by cases h) rfl hgg.src (fun u hu => by simp at hu; rcases hu with rfl | rfl | rfl <;> rfl) (by unfold maxLen; omega) (by omega) (by omega) ?_
          intro a6 c6 w6 hown6 hb6 hg6
          have hcs6 := hcs3.grown hg6 (hcs3.not_row (by decide) hown4)
          have hown7 := hown5.grown hg6 (OwnL.apart (by decide) hown5 hown4)
          have g6 := hcs6.cell 2
          have gf6 := hcs6.frozen 2
          have gl6 := hcs6.lt
          simp at g6
          have hcs7 := hcs6.set 2 (.slice a6 (k + 1) c6)
          have hown8 := hown6.moved (w' := w6.setCell ⟨g, 2, none⟩ (.slice a6 (k + 1) c6)) (g := g) (by simp) (fun b hb => Below.heap_setCell _ _ _ _ hb) (hcs6.not_row (by decide) hown6)
          have hown9 := hown7.moved (w' := w6.setCell ⟨g, 2, none⟩ (.slice a6 (k + 1) c6)) (g := g) (by simp) (fun b hb => Below.heap_setCell _ _ _ _ hb) (hcs6.not_row (by decide) hown7)
          have hb9 : Below (w.heap.size + 2) W0 (w6.setCell ⟨g, 2, none⟩ (.slice a6 (k + 1) c6)) := ((hb3.trans (heb.mono (by have := hb3.size; omega))).trans hb6).setCell (p := ⟨g, 2, none⟩) hg0 _
          clear hcs6 hown6 hown7 hcs3 hown4 hown5 hown2 hown3 hcs2 hgg c0 c1 c2 r2 g2
          go_wp2
          go_roundw
          case rel => exact ⟨k + 1, a6, c6, by omega, by go_num, hcs7, by rw [flat3_take ks k hlt, Hx.out]; exact hown8, hown9, hb9⟩
          case measure => simp [intOf]; omega⟩
    · obtain rfl : k = ks.length := by omega
      have gc0 := hcs2.cell 0
      have gc1 := hcs2.cell 1
      have gc2 := hcs2.cell 2
      have gc3 := hcs2.cell 3
      have hr1 : Cells wr (w.heap.size + 1) #[.int .i64 0, .int .i64 0, .slice none 0 0, .slice none 0 0] 32 := (hb3.block (w.heap.size + 1) (by omega)).trans hr0
      have rc0 := hr1.cell 0
      have rc1 := hr1.cell 1
      have rc2 := hr1.cell 2
      have rc3 := hr1.cell 3
      have rf0 := hr1.frozen 0
      have rf1 := hr1.frozen 1
      have rf2 := hr1.frozen 2
      have rf3 := hr1.frozen 3
      have rl := hr1.lt
      simp at gc0 gc1 gc2 gc3 rc0 rc1 rc2 rc3
      go_wp2
      have hrX := (((hr1.set 0 (.int .i64 s)).set 1 (.int .i64 wo)).set 2 (.slice a' ks.length c')).set 3 (.slice a1 ds.length c1)
      refine bodyPost_ret (results_cell1 rfl rfl (load_book hrX)) rfl ?_
      refine ⟨⟨a', c', a1, c1, rfl, ?_, ?_⟩, ?_⟩
      · rw [List.take_length] at hown2
        exact ((((hown2.setCell (by simp) _).setCell (by simp) _).setCell (by simp) _).setCell (by simp) _).base_le (by omega)
      · exact ((((hown3.setCell (by simp) _).setCell (by simp) _).setCell (by simp) _).setCell (by simp) _).base_le (by omega)
      · exact (((hwr.setCell (by simp) _).setCell (by simp) _).setCell (by simp) _).setCell (by simp) _
end Go.Proofs.Ytmplgcefhpobgaa
