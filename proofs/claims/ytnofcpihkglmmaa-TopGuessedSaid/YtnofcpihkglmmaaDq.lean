/- cipher: Possible -/
import Derived.Test.YtnofcpihkglmmaaCx
import Derived.Test.YtnofcpihkglmmaaDd
import Derived.Test.YtnofcpihkglmmaaFlin
namespace Go.Proofs.Ytnofcpihkglmmaa
set_option linter.unusedVariables false
set_option linter.unusedSimpArgs false
set_option linter.unnecessarySimpa false
open Go.RowKit Go.Flow Go.Shelf
attribute [local go_sem] Oper.semAt_some

def seenB (s code : Int) (at' : Nat) (ks : List K3) (n : Nat) : Bool := ks.any fun k => decodeN s k.1 k.2.1 k.2.2 code at' == (n : Int)
def seenC (s code : Int) (at' : Nat) (ks : List K3) : Array Value := ((List.range s.toNat).map fun n => Value.bool (seenB s code at' ks n)).toArray

theorem seenC_nil (S : Nat) (code : Int) (at' : Nat) : madeCells (Value.bool false).cells S = seenC S code at' [] := by
  unfold madeCells seenC
  apply Array.ext'
  simp [seenB, Value.cells, Nat.mod_one]
theorem info_bool : (Try.prog.info? 4).map (fun i => (i.zero, i.size, i.bytes)) = some (some (.bool false), 1, 1) := by kernel_rfl
theorem make_seen (S : Nat) (hS : S ≤ 1000) (code : Int) (at' : Nat) (W : World) : Sem.run Try.prog (Instr.makeSlice 78 (.int .i64 (S : Int)) (.int .i64 (S : Int))) W = .ok (.slice (some ⟨W.heap.size, 0, none⟩) S S) (W.alloc (.cells (seenC S code at' []) 4)) := by
  obtain ⟨i, hi, h0, h1, h2⟩ := info_parts info_bool
  have := run_make (P := Try.prog) W 78 4 i (.bool false) Try.underlying78 hi h0 .i64 .i64 S S (by omega) (Int.le_refl _) (by rw [h2]; omega) (by omega)
  rw [h1, Nat.mul_one, Int.toNat_natCast, seenC_nil S code at'] at this
  exact this

theorem ownFrom_cells {β : Type} (B g : Nat) (T : TypeId) (f : β → Array Value) : OwnFrom B (fun s W => Cells W g (f s) T) := fun s W W' row hs hg hr =>
  hs.grown hg (fun e => by obtain ⟨_, o, ho, hc⟩ := hr g e.symm; rw [show W.heap[g]? = _ from hs] at ho; cases ho; cases hc)
theorem ownFrom_ck {β : Type} (B bm : Nat) (w0 : World) : OwnFrom B (fun (_ : β) W => CK bm w0 W) := fun _ W W' row hs hg hr =>
  hs.trans ⟨hg.size, fun a v _ hc => cell_kept hc hg (fun r e => (hr r e).2)⟩
theorem seenC_size (S : Nat) (code : Int) (x : Nat) (l : List K3) : (seenC S code x l).size = S := by simp [seenC]
theorem seenC_get {s : Int} {S : Nat} (hs : s = S) {code : Int} {x : Nat} {l : List K3} {n : Nat} (h : n < S) : (seenC s code x l)[n]? = some (.bool (seenB s code x l n)) := by
  subst hs; simp [seenC, h]
theorem seenC_set {s : Int} {S : Nat} (hs : s = S) {code : Int} {x : Nat} {l : List K3} {k : K3} {n : Nat} (h : n < S) (hn : decodeN s k.1 k.2.1 k.2.2 code x = n) : (seenC s code x l).setIfInBounds n (.bool true) = seenC s code x (l ++ [k]) := by
  subst hs
  apply Array.ext
  · simp [seenC_size]
  · intro i h1 h2
    have hi : i < S := by simpa [seenC_size] using h2
    have e1 := seenC_get rfl (code := code) (x := x) (l := l ++ [k]) hi
    have e2 := seenC_get rfl (code := code) (x := x) (l := l) hi
    rw [Array.getElem?_eq_getElem h2] at e1
    rw [Option.some.inj e1]
    rw [Array.getElem_setIfInBounds]
    by_cases hin : n = i
    · subst hin
      rw [if_pos rfl]
      simp [seenB, hn]
    · rw [if_neg hin]
      rw [Array.getElem?_eq_getElem (by rw [seenC_size]; exact hi)] at e2
      rw [Option.some.inj e2]
      have : (decodeN (S : Int) k.1 k.2.1 k.2.2 code x == (i : Int)) = false := by rw [hn]; simp; omega
      simp [seenB, this]
    rw [seenC_size]; exact hi
theorem decodeN_b (s m a st c : Int) (x : Nat) (h : 0 < s) : 0 ≤ decodeN s m a st c x ∧ decodeN s m a st c x < s := by
  unfold decodeN
  exact ⟨Int.emod_nonneg _ (by omega), Int.emod_lt_of_pos _ h⟩
def KAt (b : Nat) (x : K3) (a : Act) (base : Act) (W : World) : Prop := ∃ g, b ≤ g ∧ Cells W g #[.int .i64 x.1, .int .i64 x.2.1, .int .i64 x.2.2] 57 ∧ a = { tmps := (base.tmps.setIfInBounds 36 (.agg #[.int .i64 x.1, .int .i64 x.2.1, .int .i64 x.2.2])).setIfInBounds 12 (.pointer (some ⟨g, 0, none⟩)), defers := [] }
theorem ownFrom_kat {β : Type} (B b : Nat) (x : K3) (a base : Act) : OwnFrom B (fun (_ : β) W => KAt b x a base W) := fun s W W' row ⟨g, h1, h2, h3⟩ hg hr =>
  ⟨g, h1, h2.grown hg (fun e => by obtain ⟨_, o, ho, hc⟩ := hr g e.symm; rw [show W.heap[g]? = _ from h2] at ho; cases ho; cases hc), h3⟩

theorem CK.setCellAt (bm o : Nat) (W : World) (v : Value) : CK bm W (W.setCell ⟨bm, o, none⟩ v) :=
  ⟨by simp, fun a u hn hc => by rw [World.cell?_setCell_other _ _ _ _ (fun e => hn (by rw [← e]))]; exact hc⟩
theorem KeepsOthers.of_below {W W' : World} (h : Below W.heap.size W W') : KeepsOthers W W' :=
  ⟨h.size, fun k o hk _ => (h.block k (Array.getElem?_eq_some_iff.1 hk).1).trans hk⟩
set_option maxHeartbeats 400000 in
theorem clip_any (b o n c : Nat) (w : World) (hn : n ≤ 1000) (hc : n ≤ c) :
    Calls Try.prog 34 #[.slice (some ⟨b, o, none⟩) n c] w fun e w' => e = .returned (.slice (some ⟨b, o, none⟩) n n) ∧ w = w' := by
  go_enter Try.func34, Try.ntmps34
  go_wp2
  go_ret
  exact ⟨rfl, rfl⟩
theorem IntsAt.nilOf {w w' : World} {a a' : Option Addr} {xs : List Int} (_ : IntsAt w a xs) (h : xs.length = 0) : IntsAt w' a' xs := fun k hk => by omega
theorem IntsAt.putObj {w : World} {a : Option Addr} {xs : List Int} (h : IntsAt w a xs) (D : Nat) (o o' : Obj) (ho : w.heap[D]? = some o) (hc : o.isCells = false) : IntsAt (w.putObj D o') a xs := fun k hk =>
  let ⟨b, off, e, hlt, hcl⟩ := h k hk
  ⟨b, off, e, Nat.lt_of_lt_of_le hlt (grownBy_putObj' w D o').size, cell_kept hcl (grownBy_putObj' w D o') (fun r e => by cases e; exact ⟨o, ho, hc⟩)⟩
def PossRet (L : List Int) (E : Int) (e : Ending) (w' : World) : Prop := ∃ a c, e = .returned (.tuple #[.slice a L.length c, .int .i64 E]) ∧ IntsAt w' a L
theorem range_kat {P : Program} {sI : Int} {o : Operand} {assign body : Code} {Q : Exit → Act → World → Prop} {a : Act} {w : World} {n : Nat} (h1 : 1 ≤ n) {gf : Nat} {lb : Array Value} (hg : a.eval o = .func (.func gf) #[] lb) (eg : ∀ args w, (callFunc gf args).run P w = .ok (.enter gf args) w)
    {Kp : World → World → Prop} {S Sp : List (KV sI) → Prop} {N : Nat} {w0 : World} (hseq : SeqStopsK Fence.wide (n - 1) P gf lb (fun x : KV sI => encK x.1) Kp S Sp N w0)
    (hKt : ∀ {A B C : World}, Kp A B → Kp B C → Kp A C) (hKb : ∀ (W : World) (l : Nat) (o o' : Obj), w.heap.size ≤ l → W.heap[l]? = some o → o.isCells = false → o.isWalk = false → Kp W (W.putObj l o')) (hb0 : Below w0.heap.size w0 w)
    (I : List (KV sI) → World → Prop) (hI : OwnFrom w.heap.size I) (h0 : I [] w)
    (hassign : ∀ (l : Nat) (pre : List (KV sI)) (x : KV sI) (W : World) (K : Act → World → Prop), I pre W → (∀ a' W', KeepsFrom w.heap.size W W' → Kp W W' → I pre W' → KAt w.heap.size x.1 a' a W' → K a' W') →
      assign.wpIn (Fence.wide.inRound l) (n - 1 - 1) P (Exit.then K (fun _ _ _ => False)) { tmps := (#[36].zip (encK x.1)).foldl (fun t (p, v) => t.setIfInBounds p v) a.tmps, defers := [] } W)
    (hbody : ∀ (l : Nat) (pre : List (KV sI)) (x : KV sI) (a' : Act) (W : World), w.heap.size ≤ l → I pre W → KAt w.heap.size x.1 a' a W → pre.length < N → body.wpIn (Fence.wide.inRound l) (n - 1 - 1) P (ownPostG w.heap.size Kp I (fun _ _ _ => False) (pre ++ [x]) W) a' W)
    (hdone : ∀ (D : Nat) (xs : List (KV sI)) (W : World), w.heap.size ≤ D → S xs → I xs W → W.heap[D]? = some (.deferred (some [])) → Q .normal { a with defers := { target := .collected D, args := #[] } :: a.defers } W) :
    (Code.rangeFunc o #[36] assign body).wpIn Fence.wide n P Q a w :=
  wpIn_rangeFunc_ownH rfl h1 hg trivial eg hseq hKt hKb hb0 (fun _ => rfl) I (fun _ _ _ => False) hI (fun _ _ _ _ _ hs _ _ => hs) h0 (fun x a' W => KAt w.heap.size x.1 a' a W) (fun x a' => ownFrom_kat _ _ _ _ _) hassign
    (fun l pre x a' W hl _ hi hx hn => hbody l pre x a' W hl hi hx hn) hdone (fun _ _ _ _ _ _ h _ => h.elim)

def possK (s code : Int) (x : Nat) (l : List K3) (k : Nat) : List Int := ((List.range k).filter (seenB s code x l)).map (fun (n : Nat) => (n : Int))
theorem possK_succ (s code : Int) (x : Nat) (l : List K3) (k : Nat) : possK s code x l (k + 1) = possK s code x l k ++ if seenB s code x l k then [(k : Int)] else [] := by
  unfold possK
  rw [List.range_succ, List.filter_append, List.map_append]
  congr 1
  cases h : seenB s code x l k <;> simp [h]
theorem possK_len (s code : Int) (x : Nat) (l : List K3) (k : Nat) : (possK s code x l k).length ≤ k := by
  unfold possK
  rw [List.length_map]
  exact Nat.le_trans (List.length_filter_le _ _) (by simp)

set_option maxRecDepth 100000 in
set_option maxHeartbeats 4000000 in
theorem poss_ok (s wo : Int) (ak : Option Addr) (ks : List (Int × Int × Int)) (ck : Nat) (ad : Option Addr) (ds : List Int) (cd : Nat) (ac : Option Addr) (codes : List Int) (cc : Nat) (ag : Option Addr) (gs : List (Int × Int)) (cg : Nat) (x : Nat) (w : World) (hk : Recs3At w ak ks) (hd : IntsAt w ad ds) (lk : ks.length ≤ 1000) (ld : ds.length ≤ 1000) (hc : IntsAt w ac codes) (lc : codes.length ≤ 1000) (hg0 : Recs2At w ag gs) (lg : gs.length ≤ 1000)
    (he : askErr s wo ks ds codes gs = 0) (hx : x < codes.length) (L : List Int) (E : Int) (HL : Hid (possK s (codes.getD x 0) x (keysN s codes gs) s.toNat = L)) (HE : Hid (E = if L.length = 0 then 11 else 0)) :
    Calls Try.prog 12 #[.agg #[.int .i64 s, .int .i64 wo, .slice ak ks.length ck, .slice ad ds.length cd], .slice ac codes.length cc, .slice ag gs.length cg, .int .i64 x] w fun e w' => PossRet L E e w' ∧ Below w.heap.size w w' := by
  obtain ⟨hbk, _, _, hco, hgo⟩ := askErr_ok he
  obtain ⟨_, _, s0, s1, _⟩ := bookErr_ok hbk
  have He := Lib.hid he
  obtain ⟨S, hS⟩ := Int.eq_ofNat_of_zero_le (show 0 ≤ s by omega)
  obtain ⟨code, hcode⟩ : ∃ code, codes.getD x 0 = code := ⟨_, rfl⟩
  have hmk : ∀ W, Sem.run Try.prog (Instr.makeSlice 78 (.int .i64 s) (.int .i64 s)) W = .ok (.slice (some ⟨W.heap.size, 0, none⟩) S S) (W.alloc (.cells (seenC s code x []) 4)) := by
    rw [hS]; exact make_seen S (by omega) code x
  have HS := Lib.hid hS
  clear hS
  have hin : decide ((x : Int) ≤ (codes.length : Int) - 1) = true := by simp; omega
  have hxi : (x : Int) < codes.length := by omega
  clear hbk
  refine (callsIn_wide (n := 5)).1 ?_
  refine callsIn_of_wp_marks Try.func12 rfl trivial ?_ rfl
  simp only [Try.ntmps12, List.size_toArray, List.length_cons, List.length_nil, Nat.reduceAdd, Nat.reduceSub, Array.replicate_succ, Array.replicate_zero, List.push_toArray, List.append_toArray, List.nil_append, List.cons_append]
  have hask := fun W (hW : Below w.heap.size w W) => asked_any s wo ak ks ck ad ds cd ac codes cc ag gs cg W (hk.below hW) (hd.below hW) lk ld (hc.below hW) lc (hg0.below hW) lg
  gi_wp2_with (first
    | (refine ⟨trivial, ?_⟩; gi_at_call 30; refine (callsIn_wide.2 (hask _ (by (repeat (first | exact Below.refl _ _ | refine Below.alloc ?_ (by first | omega | (simp; done) | (simp; omega)) _ | refine Below.drew ?_ | refine Below.setCell ?_ (by first | omega | (simp; done) | (simp; omega)) _ | refine Below.trans ?_ (Below.mono (by assumption) (by first | omega | (simp; done) | (simp; omega)))))))).mono ?_; rw [He.out]; rintro e w1 ⟨rfl, hb1⟩; obtain ⟨hc1, hf1, hz1⟩ := bcell hb1; (try simp at hz1); (try (have hy0 : w.heap.size < w1.heap.size := by omega)); (try (have hy1 : w.heap.size + 1 < w1.heap.size := by omega)); (try (have hy2 : w.heap.size + 2 < w1.heap.size := by omega)))
    | (refine ⟨trivial, ?_⟩; gi_at_call 31; refine (callsIn_wide.2 (within_any _ _ _ _)).mono ?_; rintro e w2 ⟨rfl, rfl⟩)
    | (refine ⟨trivial, ?_⟩; gi_at_call 32; refine (callsIn_wide.2 (keys_any s wo ak ks ck ad ds cd ac codes.length cc ag gs.length cg _)).mono ?_; rintro e w2 ⟨rfl, rfl⟩))
  have hw1 : Below w.heap.size w w1 := by (repeat (first | exact Below.refl _ _ | refine Below.alloc ?_ (by first | omega | (simp; done) | (simp; omega)) _ | refine Below.drew ?_ | refine Below.setCell ?_ (by first | omega | (simp; done) | (simp; omega)) _ | refine Below.trans ?_ (Below.mono (by assumption) (by first | omega | (simp; done) | (simp; omega)))))
  have hw1z := hw1.size
  obtain ⟨g, hg⟩ : ∃ g, w1.heap.size = g := ⟨_, rfl⟩
  obtain ⟨w2, hw2⟩ : ∃ z : World, z = w1.alloc (.cells (seenC s code x []) 4) := ⟨_, rfl⟩
  have z2 : w2.heap.size = g + 1 := by rw [hw2]; simp [hg]
  have b2 : Below w1.heap.size w1 w2 := by rw [hw2]; exact (Below.refl _ _).alloc (Nat.le_refl _) _
  have c2 : Cells w2 g (seenC s code x []) 4 := by rw [hw2, ← hg]; exact Cells.new _ _ _
  rw [← hw2]
  obtain ⟨w3, hw3⟩ : ∃ z : World, z = w2.alloc (.cells #[.slice (some ⟨w1.heap.size, 0, none⟩) S S] 78) := ⟨_, rfl⟩
  have z3 : w3.heap.size = g + 1 + 1 := by rw [hw3]; simp [z2]
  have b3 : Below w2.heap.size w2 w3 := by rw [hw3]; exact (Below.refl _ _).alloc (Nat.le_refl _) _
  have q3 : w3.cell? ⟨g + 1, 0, none⟩ = some (.slice (some ⟨g, 0, none⟩) S S) := by rw [hw3, ← z2, hg]; exact cell_new _ _ _ 0 _ rfl
  rw [← hw3]
  obtain ⟨w4, hw4⟩ : ∃ z : World, z = w3.alloc (.cells #[.int .i64 s, .int .i64 wo, .slice ak ks.length ck, .slice ad ds.length cd] 49) := ⟨_, rfl⟩
  have z4 : w4.heap.size = g + 1 + 1 + 1 := by rw [hw4]; simp [z3]
  have b4 : Below w3.heap.size w3 w4 := by rw [hw4]; exact (Below.refl _ _).alloc (Nat.le_refl _) _
  have q4 : BookAt w4 (g + 1 + 1) s wo ak ks.length ck ad ds.length cd := by rw [hw4, ← z3]; exact BookAt.new _ _ _ _ _ _ _ _ _ _
  rw [← hw4]
  obtain ⟨w5, hw5⟩ : ∃ z : World, z = w4.alloc (.cells #[.slice ac codes.length cc] 26) := ⟨_, rfl⟩
  have z5 : w5.heap.size = g + 1 + 1 + 1 + 1 := by rw [hw5]; simp [z4]
  have b5 : Below w4.heap.size w4 w5 := by rw [hw5]; exact (Below.refl _ _).alloc (Nat.le_refl _) _
  have q5 : w5.cell? ⟨g + 1 + 1 + 1, 0, none⟩ = some (.slice ac codes.length cc) := by rw [hw5, ← z4]; exact cell_new _ _ _ 0 _ rfl
  rw [← hw5]
  obtain ⟨w6, hw6⟩ : ∃ z : World, z = w5.alloc (.cells #[.slice ag gs.length cg] 51) := ⟨_, rfl⟩
  have z6 : w6.heap.size = g + 1 + 1 + 1 + 1 + 1 := by rw [hw6]; simp [z5]
  have b6 : Below w5.heap.size w5 w6 := by rw [hw6]; exact (Below.refl _ _).alloc (Nat.le_refl _) _
  have q6 : w6.cell? ⟨g + 1 + 1 + 1 + 1, 0, none⟩ = some (.slice ag gs.length cg) := by rw [hw6, ← z5]; exact cell_new _ _ _ 0 _ rfl
  rw [← hw6]
  clear hw2 hw3 hw4 hw5 hw6
  have b26 : Below w2.heap.size w2 w6 := b3.trans ((b4.trans ((b5.trans (b6.mono b5.size)).mono b4.size)).mono b3.size)
  have b16 : Below w1.heap.size w1 w6 := b2.trans (b26.mono b2.size)
  have t6 : Below w.heap.size w w6 := hw1.trans (b16.mono hw1z)
  obtain ⟨wx, hwx⟩ : ∃ z : World, z = ((w.alloc (.cells #[.int .i64 s, .int .i64 wo, .slice ak ks.length ck, .slice ad ds.length cd] 49)).alloc (.cells #[.slice ac codes.length cc] 26)).alloc (.cells #[.int .i64 x] 3) := ⟨_, rfl⟩
  have zx : wx.heap.size = w.heap.size + 1 + 1 + 1 := by rw [hwx]; simp
  rw [← hwx] at hb1
  have o0 : BookAt wx w.heap.size s wo ak ks.length ck ad ds.length cd := by
    rw [hwx]; exact (BookAt.new w s wo ak ks.length ck ad ds.length cd 49).below (((Below.refl _ _).alloc (Nat.le_refl _) _).alloc (by simp) _)
  have o1 : wx.cell? ⟨w.heap.size + 1, 0, none⟩ = some (.slice ac codes.length cc) := by
    rw [hwx]
    have := cell_new (w.alloc (.cells #[.int .i64 s, .int .i64 wo, .slice ak ks.length ck, .slice ad ds.length cd] 49)) #[.slice ac codes.length cc] 26 0 _ rfl
    rw [World.size_alloc] at this
    exact below_cell ((Below.refl _ _).alloc (Nat.le_refl _) _) this
  have o2 : wx.cell? ⟨w.heap.size + 1 + 1, 0, none⟩ = some (.int .i64 x) := by
    rw [hwx]
    have := cell_new ((w.alloc (.cells #[.int .i64 s, .int .i64 wo, .slice ak ks.length ck, .slice ad ds.length cd] 49)).alloc (.cells #[.slice ac codes.length cc] 26)) #[.int .i64 x] 3 0 _ rfl
    rw [World.size_alloc, World.size_alloc] at this
    exact this
  clear hwx
  have zb := hb1.size
  have j6 : Below wx.heap.size wx w6 := hb1.trans (b16.mono hb1.size)
  have o0' := o0.below j6
  have o1' := below_cell j6 o1
  have o2' := below_cell j6 o2
  have c6 := c2.below b26
  have q36 := below_cell (b4.trans ((b5.trans (b6.mono b5.size)).mono b4.size)) q3
  have q46 := (q4.below b5).below b6
  have q56 := below_cell b6 q5
  have hcN : IntsN g w6 ac codes := (hc.below hw1).toN b16 (by omega)
  have hgN : RecsN g w6 ag gs := (hg0.below hw1).toN b16 (by omega)
  have hstops := keysV_stops 4 (by omega) g (g + 1 + 1) (g + 1 + 1 + 1) (g + 1 + 1 + 1 + 1) s wo ak ks ck ad ds cd ac codes cc ag gs cg w6 q46 q56 q6 (by omega) (by omega) (by omega) (by omega) hcN hgN (by omega) s1 lc lg hco hgo
  clear o0 o1 o2 j6 q3 q4 q5 q6 c2 b2 b3 b4 b5 b6
  rw [hg]
  refine range_kat (by omega) (gf := 57) (lb := #[.pointer (some ⟨g + 1 + 1, 0, none⟩), .pointer (some ⟨g + 1 + 1 + 1, 0, none⟩), .pointer (some ⟨g + 1 + 1 + 1 + 1, 0, none⟩)]) rfl (enters_of Try.func57 (by kernel_rfl) rfl)
    hstops CK.trans (fun W l o o' _ h ho _ => CK.putObj W l o o' h ho) (Below.refl _ _)
    (fun pre W => Cells W g (seenC s code x (pre.map (·.1))) 4 ∧ (CK g w6 W ∧ Below w.heap.size w W))
    (OwnFrom.and (ownFrom_cells _ _ _ _) (OwnFrom.and (ownFrom_ck _ _ _) (ownFrom_below (Nat.le_refl _) (by omega))))
    ⟨c6, CK.refl _ _, t6⟩ ?assign ?body ?done
  case assign =>
    rintro l pre ⟨k, hk⟩ W K ⟨h1, h2, h3⟩ hK
    unfold encK
    gi_wp2
    exact hK _ _ ((KeepsOthers.alloc _ _).from _) (CK.below ((Below.refl _ _).alloc (Nat.le_refl _) _)) ⟨h1.below ((Below.refl _ _).alloc (Nat.le_refl _) _), h2.trans (CK.below ((Below.refl _ _).alloc (Nat.le_refl _) _)), h3.alloc h3.size _⟩ ⟨W.heap.size, h2.size, Cells.new _ _ _, rfl⟩
  case body =>
    rintro l pre ⟨⟨m, a, st⟩, hkv⟩ a' W hl ⟨h1, h2, h3⟩ ⟨gk, hgk, hkc, rfl⟩ hlt
    simp only [List.setIfInBounds_toArray, List.set_cons_zero, List.set_cons_succ]
    dsimp only at hkc hkv
    obtain ⟨⟨m0, m1⟩, ⟨a0, a1⟩, ⟨st0, st1⟩⟩ := hkv
    have e0 := h2.cell _ _ (by simp; omega) o0'.c0
    have e1 := h2.cell _ _ (by simp; omega) o0'.c1
    have e2 := h2.cell _ _ (by simp; omega) o0'.c2
    have e3 := h2.cell _ _ (by simp; omega) o0'.c3
    have e5 := h2.cell _ _ (by simp; omega) o1'
    have e7 := h2.cell _ _ (by simp; omega) o2'
    have e11 := h2.cell _ _ (by simp) q36
    have zW := h2.size
    have k0 := hkc.cell 0
    have k1 := hkc.cell 1
    have k2 := hkc.cell 2
    simp at k0 k1 k2
    have lk1 := hkc.lt
    obtain ⟨b, off, rfl, hbn, hbl, hcx⟩ := (hcN.ck h2) x hx
    rw [hcode] at hcx
    have hcb : 0 ≤ code ∧ code < s := by
      have := List.all_eq_true.1 hco (codes.getD x 0) (by rw [List.getD_eq_getElem?_getD, List.getElem?_eq_getElem hx]; exact List.getElem_mem hx)
      rw [hcode] at this
      simp [plainOk] at this; omega
    obtain ⟨c0, c1⟩ := hcb
    have hdb := decodeN_b s m a st code x (by omega)
    have hdec : ∀ V, Calls Try.prog 33 #[.agg #[.int .i64 s, .int .i64 wo, .slice ak ks.length ck, .slice ad ds.length cd], .agg #[.int .i64 m, .int .i64 a, .int .i64 st], .int .i64 code, .int .i64 x] V fun e w' => e = .returned (.int .i64 (decodeN s m a st code x)) ∧ Below V.heap.size V w' := fun V => decode_any s wo m a st code x _ _ V (by omega) (by omega) (by omega) (by omega) (by omega) (by omega) (by omega) (by omega) (by omega) (by omega) (by omega) (by omega)
    obtain ⟨v, hv⟩ : ∃ v, decodeN s m a st code x = v := ⟨_, rfl⟩
    rw [hv] at hdb hdec
    obtain ⟨n, rfl⟩ := Int.eq_ofNat_of_zero_le hdb.1
    have hn : n < S := by have := HS.out; omega
    have hni : (n : Int) < (S : Int) := by omega
    have Hv := Lib.hid hv
    have Hco := Lib.hid hcode
    have Hin := Lib.hid hin
    have y1 : g + 1 < W.heap.size := by omega
    have y2 : w.heap.size < W.heap.size := by omega
    have y3 : w.heap.size + 1 < W.heap.size := by omega
    have y4 : w.heap.size + 1 + 1 < W.heap.size := by omega
    clear hv hcode hdb hmk hask
    gi_wp2
    refine wpIn_region_ext 10 (by kernel_rfl) (by kernel_rfl) (by kernel_rfl) ?_
    simp only [List.take_succ_cons, List.take_zero, List.drop_succ_cons, List.drop_zero]
    (repeat (go_big_quiet_step ((go_at_call 33; refine Calls_ext (hdec _)))))
    refine wpQuiet_nil ?_
    rintro _ ⟨ex, rfl⟩
    have hex := ex.below
    obtain ⟨W2, hW2⟩ : ∃ z : World, z = ex.to := ⟨_, rfl⟩
    rw [← hW2] at hex ⊢
    clear hW2
    have h1' := h1.below hex
    have f1 := h1'.frozen n
    have g1 := h1'.cell n
    rw [seenC_get HS.out hn] at g1
    have lg := h1'.lt
    gi_wp2
    exact ⟨((KeepsOthers.of_below hex).trans (KeepsOthers.setCell _ _ _)).from _, (CK.below hex).trans (CK.setCellAt g n _ _), by rw [List.map_append]; have := h1'.set n (.bool true); rwa [seenC_set (k := (m, a, st)) HS.out hn Hv.out] at this,
      h2.trans ((CK.below hex).trans (CK.setCellAt g n _ _)), (h3.trans (hex.mono h3.size)).setCell (p := ⟨g, n, none⟩) (show w.heap.size ≤ g by omega) _⟩
  case done =>
    rintro D ys W hD hys ⟨h1, h2, h3⟩ hK
    have e11 := h2.cell _ _ (by simp) q36
    have zW := h2.size
    have lg := h1.lt
    rw [hys] at h1
    obtain ⟨KS, hKS⟩ : ∃ KS, keysN s codes gs = KS := ⟨_, rfl⟩
    rw [hKS] at h1
    have lD := (Array.getElem?_eq_some_iff.1 hK).1
    have HKS := Lib.hid hKS
    have HK := Lib.hid hK
    have Hys := Lib.hid hys
    clear hKS hK hys hmk hask
    gi_wp2
    refine wpIn_wide.2 ?_
    go_loopw [13, 49] (fun v i wr => ∃ (k : Nat) (a' : Option Addr) (c' : Nat), k ≤ S ∧ i = .int .i64 k ∧ v = .slice a' (possK s code x KS k).length c' ∧ OwnL 3 1 W.heap.size wr a' c' (possK s code x KS k).length ((possK s code x KS k).map (Value.int .i64)) ∧ Below W.heap.size W wr) (fun _ i _ => S - (intOf i).toNat)
    case atStart => exact ⟨0, none, 0, Nat.zero_le _, rfl, rfl, OwnL.nil _ _ _ _, Below.refl _ _⟩
    case round =>
      obtain ⟨k, a', c', hkS, rfl, rfl, own, bR⟩ := hrel
      have hsn := possK_succ s code x KS k
      have hpl := possK_len s code x KS k
      obtain ⟨PL, hPL⟩ : ∃ PL, possK s code x KS k = PL := ⟨_, rfl⟩
      rw [hPL] at hsn hpl own ⊢
      have hS1 : S ≤ 1000 := by have := HS.out; omega
      by_cases hlt : k < S
      · have c1 := (h1.below bR).cell k
        rw [seenC_get HS.out hlt] at c1
        have l1 := (h1.below bR).lt
        have hki : (k : Int) < (S : Int) := by omega
        have Hsn := Lib.hid hsn
        have HPL := Lib.hid hPL
        clear hsn hPL
        cases hb : seenB s code x KS k
        · rw [hb] at c1
          have Hb := Lib.hid hb
          clear hb
          go_wp2
          go_roundw
          case rel => exact ⟨k + 1, a', c', by omega, by go_num, by rw [Hsn.out, Hb.out]; simp, by rw [Hsn.out, Hb.out]; simpa using own, bR⟩
          case measure => simp [intOf]; omega
        · rw [hb] at c1
          have Hb := Lib.hid hb
          clear hb
          go_wp2_with (at_builtin; refine wpList_app_lit elInt rfl _ _ rfl W.heap.size _ PL.length c' _ rfl own 1 1 rfl rfl (fun u hu => ?c1) ?c2 ?c3 ?c4 ?_)
          case c1 => simp at hu; subst hu; rfl
          case c2 => unfold maxLen; omega
          case c3 => omega
          case c4 => exact bR.size
          intro a6 c6 w6 o6 b6
          go_wp2
          go_roundw
          case rel => exact ⟨k + 1, a6, c6, by omega, by go_num, by rw [Hsn.out, Hb.out]; simp, by rw [Hsn.out, Hb.out]; simpa using o6, bR.trans b6⟩
          case measure => simp [intOf]; omega
      · have hkq : k = S := by omega
        have HPL : Hid (possK s code x KS S = PL) := Lib.hid (by rw [← hPL, hkq])
        subst hkq
        clear hsn hPL
        have hPL2 : possK s (codes.getD x 0) x (keysN s codes gs) s.toNat = PL := by rw [hcode, HKS.out, show s.toNat = k by have := HS.out; omega]; exact HPL.out
        have HP2 := Lib.hid hPL2
        have hK2 := (bR.block D lD).trans HK.out
        have iPL := own.ints.1
        have tR := h3.trans (bR.mono h3.size)
        have HK2 := Lib.hid hK2
        clear hPL2 hK2 hcode
        by_cases h0 : PL.length = 0
        · have H0 := Lib.hid h0
          rw [h0] at own ⊢
          clear h0 hpl
          go_wp2
          gi_wp2
          refine ⟨by simp, .inl ⟨_, _, rfl, run_takeDeferred HK2.out, ?_⟩⟩
          refine ⟨_, results_tmp2 rfl _ _ _, ?_, tR.trans (belowK_b (w := w) (Nat.le_refl _) wr D _ _ (by omega) HK2.out rfl rfl)⟩
          rw [← HL.out, HP2.out] at HE ⊢
          rw [HE.out, if_pos H0.out]
          exact ⟨none, 0, by rw [H0.out]; rfl, iPL.nilOf H0.out⟩
        · have h0i : ((PL.length : Int) == 0) = false := by simp; intro h; subst h; simp at h0
          obtain ⟨b, off, rfl, _, _⟩ := iPL 0 (by omega)
          have hfc := own.fits.1
          have H0 := Lib.hid h0
          have hp1 : PL.length ≤ 1000 := by omega
          clear h0
          go_wp2
          gi_wp2_with (refine ⟨trivial, ?_⟩; gi_at_call 34; refine (callsIn_wide.2 (clip_any _ _ _ _ _ hp1 hfc)).mono ?_; rintro e _ ⟨rfl, rfl⟩)
          refine ⟨by simp, .inl ⟨_, _, rfl, run_takeDeferred HK2.out, ?_⟩⟩
          refine ⟨_, results_tmp2 rfl _ _ _, ?_, tR.trans (belowK_b (w := w) (Nat.le_refl _) wr D _ _ (by omega) HK2.out rfl rfl)⟩
          rw [← HL.out, HP2.out] at HE ⊢
          rw [HE.out, if_neg H0.out]
          exact ⟨some ⟨b, off, none⟩, _, rfl, iPL.putObj D _ _ HK2.out rfl⟩
end Go.Proofs.Ytnofcpihkglmmaa
