/- CipherNames: contracts at the document's book. -/
import Derived.Test.YtmplgcefhpobgaaDu
import Derived.Test.YtmplgcefhpobgaaAp
namespace Go.Proofs.Ytmplgcefhpobgaa
set_option linter.unusedVariables false
set_option linter.unusedSimpArgs false
set_option linter.unnecessarySimpa false
open Go.RowKit Go.Flow

theorem Cells.ints {w : World} {g : Nat} {cs : Array Value} {T : TypeId} (h : Cells w g cs T) (l : List Int) (hl : cs.toList = l.map (Value.int .i64)) : IntsAt w (some ⟨g, 0, none⟩) l := fun k hk => by
  refine ⟨g, 0, rfl, h.lt, ?_⟩
  rw [Nat.zero_add, h.cell, ← Array.getElem?_toList, hl]
  simp [hk]
theorem Cells.recs2 {w : World} {g : Nat} {cs : Array Value} {T : TypeId} (h : Cells w g cs T) (l : List (Int × Int)) (hl : cs.toList = flat2 l) : Recs2At w (some ⟨g, 0, none⟩) l := fun k hk => by
  obtain ⟨a, b⟩ := flat2_get l k hk
  rw [← hl, Array.getElem?_toList] at a b
  exact ⟨g, 0, rfl, h.lt, by rw [Nat.zero_add, h.cell]; exact a, by rw [Nat.zero_add, h.cell]; exact b⟩
theorem Cells.recs3 {w : World} {g : Nat} {cs : Array Value} {T : TypeId} (h : Cells w g cs T) (l : List K3) (hl : cs.toList = flat3 l) : Recs3At w (some ⟨g, 0, none⟩) l := fun k hk => by
  obtain ⟨a, b, c⟩ := flat3_get l k hk
  rw [← hl, Array.getElem?_toList] at a b c
  exact ⟨g, 0, rfl, h.lt, by rw [Nat.zero_add, h.cell]; exact a, by rw [Nat.zero_add, h.cell]; exact b, by rw [Nat.zero_add, h.cell]; exact c⟩
theorem Cells.alloc {w : World} {g : Nat} {cs : Array Value} {T : TypeId} (h : Cells w g cs T) (o : Obj) : Cells (w.alloc o) g cs T := h.below ((Below.refl _ _).alloc (Nat.le_refl _) _)
theorem Cells.new' (w : World) (cs : Array Value) (T : TypeId) (B : Nat) (hB : B = w.heap.size) : Cells (w.alloc (.cells cs T)) B cs T := by subst hB; exact Cells.new w cs T

set_option maxHeartbeats 1000000 in
theorem bookC_any (w : World) : Calls Try.prog 47 #[] w fun e w' => (∃ g h, e = .returned (EXB (some ⟨g, 0, none⟩) 2 (some ⟨h, 0, none⟩) 3) ∧ w.heap.size ≤ g ∧ g < h ∧ Cells w' g #[.int .i64 2, .int .i64 3, .int .i64 1, .int .i64 5, .int .i64 0, .int .i64 0] 91 ∧ Cells w' h #[.int .i64 0, .int .i64 0, .int .i64 1] 3) ∧ Below w.heap.size w w' := by
  go_enter Try.func47, Try.ntmps47
  go_wp2
  obtain ⟨w1, hw1⟩ : ∃ x : World, x = w.alloc (.cells #[.int .i64 13, .int .i64 10, .slice (some ⟨w.heap.size + 1, 0, none⟩) 2 2, .slice (some ⟨w.heap.size + 1 + 1, 0, none⟩) 3 3] 32) := ⟨_, rfl⟩
  have hc := Cells.new w #[.int .i64 13, .int .i64 10, .slice (some ⟨w.heap.size + 1, 0, none⟩) 2 2, .slice (some ⟨w.heap.size + 1 + 1, 0, none⟩) 3 3] 32
  have hz : w1.heap.size = w.heap.size + 1 := by rw [hw1]; simp
  have hb : Below w.heap.size w w1 := by rw [hw1]; (repeat (first | exact Below.refl _ _ | refine Below.alloc ?_ (by first | omega | (simp; done) | (simp; omega)) _ | refine Below.drew ?_ | refine Below.setCell ?_ (by first | omega | (simp; done) | (simp; omega)) _ | refine Below.trans ?_ (Below.mono (by assumption) (by first | omega | (simp; done) | (simp; omega)))))
  rw [← hw1] at hc ⊢
  clear hw1
  have o1 := Cells.new w1 #[.int .i64 2, .int .i64 3, .int .i64 1, .int .i64 5, .int .i64 0, .int .i64 0] 91
  have b1 : Below w1.heap.size w1 (w1.alloc (.cells #[.int .i64 2, .int .i64 3, .int .i64 1, .int .i64 5, .int .i64 0, .int .i64 0] 91)) := (Below.refl _ _).alloc (Nat.le_refl _) _
  obtain ⟨w2, hw2⟩ : ∃ x : World, x = w1.alloc (.cells #[.int .i64 2, .int .i64 3, .int .i64 1, .int .i64 5, .int .i64 0, .int .i64 0] 91) := ⟨_, rfl⟩
  have hz2 : w2.heap.size = w.heap.size + 1 + 1 := by rw [hw2]; simp [hz]
  rw [hz, ← hw2] at o1
  rw [← hw2] at b1 ⊢
  clear hw2
  have o2 := Cells.new w2 #[.int .i64 0, .int .i64 0, .int .i64 1] 3
  have b2 : Below w2.heap.size w2 (w2.alloc (.cells #[.int .i64 0, .int .i64 0, .int .i64 1] 3)) := (Below.refl _ _).alloc (Nat.le_refl _) _
  rw [hz2] at o2
  have b3 : Below w1.heap.size w1 (w2.alloc (.cells #[.int .i64 0, .int .i64 0, .int .i64 1] 3)) := b1.trans (b2.mono (by omega))
  refine bodyPost_ret (results_cell1 rfl rfl (load_book (hc.below b3))) rfl ?_
  exact ⟨⟨_, _, rfl, by omega, by omega, o1.below b2, o2⟩, hb.trans (b3.mono hb.size)⟩

section
variable (ak : Option Addr) (ck : Nat) (ad : Option Addr) (cd : Nat)
theorem nCode (day : Int) (ap : Option Addr) (plain : List Int) (n cp : Nat) (hn : plain.length = n) (O : List Int) (m : Nat) (E : Int) (hO : codeOut 13 10 exKs exDs day plain = O) (hm : O.length = m) (hE : codeErr 13 10 exKs exDs day plain = E) (w : World) (hk : Recs3At w ak exKs) (hd : IntsAt w ad exDs) (hp : IntsAt w ap plain) (ln : n ≤ 1000) :
    Calls Try.prog 20 #[EXB ak ck ad cd, .int .i64 day, .slice ap n cp] w fun e w' => (∃ a c, e = .returned (.tuple #[.slice a m c, .int .i64 E]) ∧ IntsAt w' a O) ∧ Below w.heap.size w w' := by
  subst hn hm
  refine (code_full 13 10 ak exKs ck ad exDs cd day ap plain cp w hk hd (by decide) (by decide) hp ln).mono ?_
  rintro e w' ⟨⟨a, c, he, ho⟩, hb⟩
  rw [hO, hE] at he
  rw [hO] at ho
  exact ⟨⟨a, c, he, ho.ints.1⟩, hb⟩
theorem nDecode (day : Int) (ap : Option Addr) (l : List Int) (n : Nat) (hn : l.length = n) (E : Int) (hE : decodeErr 13 10 exKs exDs day l = E) (w : World) (hk : Recs3At w ak exKs) (hd : IntsAt w ad exDs) (hp : IntsAt w ap l) (ln : n ≤ 1000) :
    Calls Try.prog 27 #[EXB ak ck ad cd, .int .i64 day, .slice ap n n] w fun e w' => (∃ a m c a2 m2 c2, e = .returned (.tuple #[.slice a m c, .slice a2 m2 c2, .int .i64 E])) ∧ Below w.heap.size w w' := by
  subst hn
  refine (decode_full 13 10 ak exKs ck ad exDs cd day ap l l.length w hk hd (by decide) (by decide) hp ln (Nat.le_refl _) (by omega)).mono ?_
  rintro e w' ⟨⟨a, c, a2, c2, he, ho, ho2⟩, hb⟩
  rw [hE] at he
  exact ⟨⟨_, _, _, _, _, _, he⟩, hb⟩
theorem nPlan (ap : Option Addr) (m : Int) (O : List Int) (k : Nat) (c E : Int) (hO : planDays 13 10 exKs exDs [(0, 1)] m = O) (hk' : O.length = k) (hc : planCh 13 10 exKs exDs [(0, 1)] m = c) (hE : planErr 13 10 exKs exDs [(0, 1)] m = E) (w : World) (hk : Recs3At w ak exKs) (hd : IntsAt w ad exDs) (hp : Recs2At w ap [(0, 1)]) :
    Calls Try.prog 35 #[EXB ak ck ad cd, .slice ap 1 1, .int .i64 m] w fun e w' => (∃ a c1, e = .returned (.tuple #[.slice a k c1, .int .i64 c, .int .i64 E]) ∧ IntsAt w' a O) ∧ Below w.heap.size w w' := by
  subst hk'
  refine (plan_full 13 10 ak exKs ck ad exDs cd ap [(0, 1)] 1 m w hk hd (by decide) (by decide) hp (by decide)).mono ?_
  rintro e w' ⟨⟨a, c1, he, ho⟩, hb⟩
  rw [hO, hE, hc] at he
  rw [hO] at ho
  exact ⟨⟨a, c1, he, ho.ints.1⟩, hb⟩
theorem nExp (ap : Option Addr) (l : List (Int × Int)) (n : Nat) (hn : l.length = n) (E : Int) (hE : lossErr 13 10 exKs exDs l = E) (w : World) (hk : Recs3At w ak exKs) (hd : IntsAt w ad exDs) (hp : Recs2At w ap l) (ln : n ≤ 1000) :
    Calls Try.prog 29 #[EXB ak ck ad cd, .slice ap n n] w fun e w' => (∃ a m c, e = .returned (.tuple #[.slice a m c, .int .i64 E])) ∧ Below w.heap.size w w' := by
  subst hn
  refine (exposed_full 13 10 ak exKs ck ad exDs cd ap l l.length w hk hd (by decide) (by decide) hp ln).mono ?_
  rintro e w' ⟨⟨a, c, he, ho⟩, hb⟩
  rw [hE] at he
  exact ⟨⟨_, _, _, he⟩, hb⟩
theorem nPoss (ac : Option Addr) (codes : List Int) (n cc : Nat) (hn : codes.length = n) (ag : Option Addr) (gs : List (Int × Int)) (m cg : Nat) (hm : gs.length = m) (x : Int) (L : List Int) (k : Nat) (E : Int) (hL : possL 13 10 exKs exDs codes gs x = L) (hk' : L.length = k) (hE : possErr 13 10 exKs exDs codes gs x = E) (w : World) (hk : Recs3At w ak exKs) (hd : IntsAt w ad exDs) (hc : IntsAt w ac codes) (ln : n ≤ 1000) (hg : Recs2At w ag gs) (lm : m ≤ 1000) :
    Calls Try.prog 42 #[EXB ak ck ad cd, .slice ac n cc, .slice ag m cg, .int .i64 x] w fun e w' => (∃ a c, e = .returned (.tuple #[.slice a k c, .int .i64 E]) ∧ IntsAt w' a L) ∧ Below w.heap.size w w' := by
  subst hn hm hk'
  exact poss_at 13 10 ak exKs ck ad exDs cd ac codes cc ag gs cg x L E (Lib.hid hL) (Lib.hid hE) w hk hd (by decide) (by decide) hc ln hg lm
theorem nFits (ac : Option Addr) (codes : List Int) (n cc : Nat) (hn : codes.length = n) (ag : Option Addr) (gs : List (Int × Int)) (m cg : Nat) (hm : gs.length = m) (N E : Int) (hN : fitsN 13 10 exKs exDs codes gs = N) (hE : fitsErr 13 10 exKs exDs codes gs = E) (w : World) (hk : Recs3At w ak exKs) (hd : IntsAt w ad exDs) (hc : IntsAt w ac codes) (ln : n ≤ 1000) (hg : Recs2At w ag gs) (lm : m ≤ 1000) :
    Calls Try.prog 40 #[EXB ak ck ad cd, .slice ac n cc, .slice ag m cg] w fun e w' => e = .returned (.tuple #[.int .i64 N, .int .i64 E]) ∧ Below w.heap.size w w' := by
  subst hn hm
  exact fits_eq 13 10 ak exKs ck ad exDs cd ac codes cc ag gs cg N E (Lib.hid hN) (Lib.hid hE) w hk hd (by decide) (by decide) hc ln hg lm
theorem nProve (al : Option Addr) (ax : Option Addr) (l : List Int) (hlen : l.length = 3) (c : Int) (c0 : -2000000 ≤ c) (c1 : c ≤ 2000000) (r : Bool) (Hr : provB (fun j => hadN [(0, 1)] j) 2 spot0 l c = r) (hown : l.all (ownOk 2) = true) (w : World) (hk : Recs3At w ak exKs) (hd : IntsAt w ad exDs) (hl : Recs2At w al [(0, 1)]) (hx : IntsAt w ax l) :
    Calls Try.prog 38 #[EXB ak ck ad cd, .slice al 1 1, .int .i64 2, .slice ax 3 3, .int .i64 c] w fun e w' => e = .returned (.bool r) ∧ Below w.heap.size w w' := by
  have := prove_any 13 10 ak exKs ck ad exDs cd al [(0, 1)] 1 2 ax l 3 c r (Lib.hid Hr) w hk hd (by decide) (by decide) hl (by decide) hx (Lib.hid (by kernel_rfl)) (by decide) (by decide) hlen (Lib.hid hown) (by decide) c0 c1
  rw [hlen] at this
  exact this
end
theorem nCheck (s wo : Int) (ak : Option Addr) (ks : List K3) (nk ck : Nat) (hnk : ks.length = nk) (ad : Option Addr) (ds : List Int) (nd cd : Nat) (hnd : ds.length = nd) (E : Int) (hE : bookErr s wo ks ds = E) (w : World) (hk : Recs3At w ak ks) (hd : IntsAt w ad ds) (lk : nk ≤ 1000) (ld : nd ≤ 1000) :
    Calls Try.prog 18 #[.agg #[.int .i64 s, .int .i64 wo, .slice ak nk ck, .slice ad nd cd]] w fun e w' => e = .returned (.int .i64 E) ∧ Below w.heap.size w w' := by
  subst hnk hnd hE
  exact checkBook_any s wo ak ks ck ad ds cd w hk hd lk ld
theorem nSame (a : Option Addr) (xs : List Int) (n c : Nat) (hn : xs.length = n) (b : Option Addr) (d : Nat) (w : World) (hx : IntsAt w a xs) (hy : IntsAt w b xs) (ln : n ≤ 1000) :
    Calls Try.prog 25 #[.slice a n c, .slice b n d] w fun e w' => e = .returned (.bool true) ∧ Below w.heap.size w w' := by
  subst hn; exact same_eq a xs c b d w hx hy (by omega)

section
variable {P : Program} {t E : TypeId} {z : Value} {size bytes : Nat} {w : World} {ops : Array Oper} {rest : List Oper} {o : Oper} {a : Act} {Q : Exit → Act → World → Prop}
/-- Appending to a full list: a new block, the old ones stay. -/
theorem wpList_app_full (el : Elem P t E z size bytes) (hgd : o.guard = none) (s x : Operand) (ho : o.op = .call { callee := .builtin .append, args := #[s, x], argTypes := #[t, t] })
    (g n : Nat) (cs : Array Value) (hs : a.eval s = .slice (some ⟨g, 0, none⟩) n n) (hc : Cells w g cs E) (hcs : cs.size = n * size)
    (ad : Addr) (m c : Nat) (news : List Value) (hx : a.eval x = .slice (some ad) m c) (hl : news.length = m * size) (hsrc : SrcAt w (some ad) news) (hm : 0 < m)
    (h63 : n + m ≤ maxLen) (hbytes : (n + m) * bytes ≤ 140737488355328)
    (h : ∀ g' c' w', OwnL E size w.heap.size w' (some ⟨g', 0, none⟩) c' (n + m) (cs.toList ++ news) → Below w.heap.size w w' → wpList P ops Q rest (a.put o.dst (.slice (some ⟨g', 0, none⟩) (n + m) c')) w') : wpList P ops Q (o :: rest) a w := by
  obtain ⟨i, hi, hz0, hz1, hz2⟩ := el.info
  have hsmall : n + m ≤ 9223372036854775807 := by simp only [maxLen] at h63; omega
  have hnews : ∀ j u, news[j]? = some u → w.cell? (ad.add j) = some u := fun j u hu => by
    obtain ⟨b, off, ha, hc⟩ := hsrc j u hu
    obtain rfl := Option.some.inj ha
    rw [addr_add]; exact hc
  have holds : ∀ j u, cs.toList[j]? = some u → w.cell? ((⟨g, 0, none⟩ : Addr).add j) = some u := fun j u hu => by
    rw [addr_add, Nat.zero_add, hc.cell]; simpa using hu
  have hfit : Builtin.nextslicecap (n + m) n * i.bytes ≤ 281474976710656 := growslice_fits (by omega) (by rw [hz2]; simpa using hbytes)
  have hr := run_append_grow (P := P) (w := w) t o.type E i z el.slice hi hz0 ⟨g, 0, none⟩ n n cs.toList (by rw [hz1]; simpa using hcs) holds ad m c news (by rw [hz1]; exact hl) hnews (by omega) (by omega) hfit
  refine wpList_plain hgd fun K hK => ?_
  unfold Oper.wp
  simp only [execOp, ho, resolve, invoke, builtin, Sem.run_bind, Sem.run_pure, Result.andThen_ok, List.map_toArray, List.map_cons, List.map_nil, hs, hx, hr]
  refine hK _ _ (h _ _ _ ⟨by simp [hcs, hl, Nat.add_mul], .inr ⟨w.heap.size, _, _, rfl, Nat.le_refl _, heap_alloc_new w.drew _, by have := grownCap_ge w (n + m) n E; omega, grownCap_le_maxLen w (n + m) n E (by omega), ?_, ?_⟩⟩ (((Below.refl _ w).drew).alloc (Nat.le_refl _) _))
  · simp only [Array.size_append, List.size_toArray, size_zeroCells, el.cells, hl, Array.length_toList, hcs, ← Nat.add_mul]
    congr 1
    have := grownCap_ge w (n + m) n E
    omega
  · simp only [Array.toList_append]
    rw [show (n + m) * size = (cs.toList ++ news).length by simp [hcs, hl, Nat.add_mul]]
    exact List.take_left
end
theorem info_cguesses : (Try.prog.info? 88).map (fun i => (i.zero, i.size, i.bytes)) = some (some (.agg #[.int .i64 0, .int .i64 0]), 2, 16) := by kernel_rfl
theorem el_cguesses : Elem Try.prog 71 88 (.agg #[.int .i64 0, .int .i64 0]) 2 16 := ⟨Try.underlying71, info_parts info_cguesses, rfl, by decide⟩
/-- makeSlice at a given length. -/
theorem info_ckey : (Try.prog.info? 91).map (fun i => (i.zero, i.size, i.bytes)) = some (some (.agg #[.int .i64 0, .int .i64 0, .int .i64 0]), 3, 24) := by kernel_rfl
theorem info_closs : (Try.prog.info? 110).map (fun i => (i.zero, i.size, i.bytes)) = some (some (.agg #[.int .i64 0, .int .i64 0]), 2, 16) := by kernel_rfl
theorem make_ints11 (W : World) : Sem.run Try.prog (Instr.makeSlice 23 (.int .i64 11) (.int .i64 11)) W = .ok (.slice (some ⟨W.heap.size, 0, none⟩) 11 11) (W.alloc (.cells (madeCells (Value.int .i64 0).cells 11) 3)) := by
  obtain ⟨i, hi, h0, h1, h2⟩ := info_parts info_int
  have := run_make (P := Try.prog) W 23 3 i (.int .i64 0) Try.underlying23 hi h0 .i64 .i64 11 11 (by omega) (Int.le_refl _) (by rw [h2]; omega) (by omega)
  rw [h1, Nat.mul_one] at this
  exact this
theorem make_keys6 (W : World) : Sem.run Try.prog (Instr.makeSlice 30 (.int .i64 6) (.int .i64 6)) W = .ok (.slice (some ⟨W.heap.size, 0, none⟩) 6 6) (W.alloc (.cells (madeCells (Value.agg #[.int .i64 0, .int .i64 0, .int .i64 0]).cells (6 * 3)) 91)) := by
  obtain ⟨i, hi, h0, h1, h2⟩ := info_parts info_ckey
  have := run_make (P := Try.prog) W 30 91 i (.agg #[.int .i64 0, .int .i64 0, .int .i64 0]) Try.underlying30 hi h0 .i64 .i64 6 6 (by omega) (Int.le_refl _) (by rw [h2]; omega) (by omega)
  rw [h1] at this
  exact this
theorem make_loss7 (W : World) : Sem.run Try.prog (Instr.makeSlice 49 (.int .i64 7) (.int .i64 7)) W = .ok (.slice (some ⟨W.heap.size, 0, none⟩) 7 7) (W.alloc (.cells (madeCells (Value.agg #[.int .i64 0, .int .i64 0]).cells (7 * 2)) 110)) := by
  obtain ⟨i, hi, h0, h1, h2⟩ := info_parts info_closs
  have := run_make (P := Try.prog) W 49 110 i (.agg #[.int .i64 0, .int .i64 0]) Try.underlying49 hi h0 .i64 .i64 7 7 (by omega) (Int.le_refl _) (by rw [h2]; omega) (by omega)
  rw [h1] at this
  exact this
end Go.Proofs.Ytmplgcefhpobgaa
