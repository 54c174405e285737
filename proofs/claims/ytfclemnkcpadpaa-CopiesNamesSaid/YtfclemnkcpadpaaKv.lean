/- copies: search's closure -/
import Derived.Test.YtfclemnkcpadpaaKu
namespace Go.Proofs.Ytfclemnkcpadpaa
set_option linter.unusedVariables false
set_option linter.unusedSimpArgs false
set_option linter.unnecessarySimpa false
open Go.RowKit Go.Flow Go.Shelf

structure Sta (p : Post) (l : List Ent) (a : Option Addr) (c : Nat) (ar : Option Addr) (cr Bw : Nat) (al : Option Addr) (cl bw bl : Nat) (W0 : World) : Prop where
  hw : WorkAt p a c ar cr Bw W0
  hs : IntsAt W0 a p.sends
  hr : RoutesAt W0 ar p.routes
  he : EntsAt W0 al l
  kw : W0.cell? ⟨bw, 0, none⟩ = some (.pointer (some ⟨Bw, 0, none⟩))
  kl : W0.cell? ⟨bl, 0, none⟩ = some (.slice al l.length cl)
structure SAt (B0 : Nat) (W0 : World) (bw bf bd bl bn bm : Nat) (W : World) : Prop where
  b : Below B0 W0 W
  kd : W.cell? ⟨bd, 0, none⟩ = some (.map (some bm))
  kn : W.cell? ⟨bn, 0, none⟩ = some (.func (.func 105) #[] #[.pointer (some ⟨bw, 0, none⟩), .pointer (some ⟨bf, 0, none⟩), .pointer (some ⟨bd, 0, none⟩), .pointer (some ⟨bl, 0, none⟩), .pointer (some ⟨bn, 0, none⟩)])
  kf : ∃ v, W.cell? ⟨bf, 0, none⟩ = some v
  ff : W.frozen? ⟨bf, 0, none⟩ = false
theorem Keep.frozen {bm : Nat} {w w' : World} (h : Keep bm w w') {p : Addr} {v : Value} (hc : w.cell? p = some v) : w'.frozen? p = w.frozen? p :=
  World.frozen?_of_block (h.grown.block p.block (cell_lt hc) (fun e => h.old.ne hc (Option.some.inj e)))
theorem SAt.keep {W0 : World} {bw bf bd bl bn bm : Nat} {W W' : World} (h : SAt W0.heap.size W0 bw bf bd bl bn bm W) (k : Keep bm W W') (hbm : W0.heap.size ≤ bm) : SAt W0.heap.size W0 bw bf bd bl bn bm W' :=
  ⟨h.b.trans (k.toBelow hbm h.b.size), k.cell h.kd, k.cell h.kn, let ⟨v, hv⟩ := h.kf; ⟨v, k.cell hv⟩, let ⟨v, hv⟩ := h.kf; by rw [k.frozen hv]; exact h.ff⟩
theorem SAt.below {W0 : World} {bw bf bd bl bn bm : Nat} {W W' : World} (h : SAt W0.heap.size W0 bw bf bd bl bn bm W) (k : Below W.heap.size W W') : SAt W0.heap.size W0 bw bf bd bl bn bm W' :=
  ⟨h.b.trans (k.mono h.b.size), below_cell k h.kd, below_cell k h.kn, let ⟨v, hv⟩ := h.kf; ⟨v, below_cell k hv⟩, let ⟨v, hv⟩ := h.kf; by rw [k.frozen (p := ⟨bf, 0, none⟩) (cell_ltK hv)]; exact h.ff⟩

/-- What the closure leaves. -/
def NextPost (W0 : World) (bf bm n : Nat) (G : Nat → Int → Prop) (pre : List Int) (W : World) : Option (List Int) → Ending → World → Prop
  | none, e, w' => e = .returned (.bool false) ∧ Keep bm W w' ∧ DeadAt w' bm n G
  | some hs, e, w' => e = .returned (.bool true) ∧ Below W0.heap.size W0 w' ∧ (∀ b o v, b ≠ bf → W.cell? ⟨b, o, none⟩ = some v → w'.cell? ⟨b, o, none⟩ = some v) ∧ ∃ a c, w'.cell? ⟨bf, 0, none⟩ = some (.slice a (pre ++ hs).length c) ∧ IntsAt w' a (pre ++ hs)

section
variable {P : Program} {t E : TypeId} {z : Value} {size bytes : Nat} {w : World} {ops : Array Oper} {o : Oper} {a : Act} {Q : Exit → Act → World → Prop} {K : Act → World → Prop} {X : Prop}
/-- 'append' onto an own list in a drawn region. -/
theorem step_app (el : Elem P t E z size bytes) (hw : Region.wanted o (yielded ops a.tmps) = true) (s x : Operand) (ho : o.op = .call { callee := .builtin .append, args := #[s, x], argTypes := #[t, t] })
    (base : Nat) (a0 : Option Addr) (n c0 : Nat) (xs : List Value) (hs : a.eval s = .slice a0 n c0) (hown : OwnL E size base w a0 c0 n xs)
    (g m c : Nat) (news : List Value) (hx : a.eval x = .slice (some ⟨g, 0, none⟩) m c) (hl : news.length = m * size) (hsrc : SrcAt w (some ⟨g, 0, none⟩) news) (h1 : ∀ u ∈ news, u.oneCell' = true)
    (hm : 0 < m) (h63 : n + m ≤ maxLen) (hbytes : (n + m) * bytes ≤ 140737488355328) (hbase : base ≤ w.heap.size)
    (h : ∀ g' c' w', OwnL E size base w' (some ⟨g', 0, none⟩) c' (n + m) (xs ++ news) → Below base w w' → K (a.put o.dst (.slice (some ⟨g', 0, none⟩) (n + m) c')) w') :
    if Region.wanted o (yielded ops a.tmps) = true then Oper.wp P o a w K Q else X := by
  obtain ⟨i, hi, hz0, hz1, hz2⟩ := el.info
  rw [if_pos hw]
  refine wp_append_lies w s x t ho base E i z size bytes el.slice hi hz0 hz1 hz2 el.cells el.pos (.slice a0 n c0) n xs hs hown ⟨g, 0, none⟩ m c news hx hl ?_ h1 hm h63 hbytes hbase w.heap.size rfl ?_
  · intro j u hu
    obtain ⟨b, off, ha, hc⟩ := hsrc j u hu
    have ha := Option.some.inj ha
    simp at ha
    obtain ⟨rfl, rfl⟩ := ha
    rw [addr_add]; exact hc
  · intro g' cap w' h2 h3 _ _
    exact h g' cap w' h2 (below_of_grown hown hbase h3)
end
theorem ints_other {w : World} {a : Option Addr} {xs : List Int} (h : IntsAt w a xs) {b o : Nat} {v u : Value} (hb : w.cell? ⟨b, o, none⟩ = some v) (hv : ∀ z, v ≠ .int .i64 z) (h0 : o = 0) (hu : ∀ off k, k < xs.length → a = some ⟨b, off, none⟩ → off + k ≠ o) : IntsAt (w.setCell ⟨b, o, none⟩ u) a xs := fun k hk => by
  obtain ⟨b', off, ha, hlt, hc⟩ := h k hk
  refine ⟨b', off, ha, by simpa using hlt, ?_⟩
  rw [World.cell?_setCell_other _ _ _ _ (fun e => ?_)]
  · exact hc
  · simp at e
    obtain ⟨rfl, e2⟩ := e
    exact hu off k hk ha (by omega)

set_option maxRecDepth 100000 in
set_option maxHeartbeats 8000000 in
theorem next_any (p : Post) (l : List Ent) (a : Option Addr) (c : Nat) (ar : Option Addr) (cr Bw : Nat) (al : Option Addr) (cl bw bf bd bl bn bm : Nat) (W0 : World) (S0 : Sta p l a c ar cr Bw al cl bw bl W0) (h0 : postErr p = 0) (ll : l.length ≤ 1000)
    (hbm : W0.heap.size ≤ bm) (hbf : W0.heap.size ≤ bf) (hnf : bn ≠ bf) :
    ∀ (r i : Nat) (f : Int) (pre : List Int) (ah : Option Addr) (ch n : Nat) (W : World), i + r = p.sends.length → 0 ≤ f ∧ f ≤ 101 → pre.length = i → IntsAt W ah pre → (ah = none → pre = [] ∧ ch = 0) → (∀ off, ah ≠ some ⟨bf, off, none⟩) → SAt W0.heap.size W0 bw bf bd bl bn bm W →
      DeadAt W bm n (fun i f => nextR p l (p.sends.length - i) i f = none) → n + costS r < maxLen →
    Calls Try.prog 105 #[.int .i64 i, .int .i64 f, .slice ah pre.length ch, .pointer (some ⟨bw, 0, none⟩), .pointer (some ⟨bf, 0, none⟩), .pointer (some ⟨bd, 0, none⟩), .pointer (some ⟨bl, 0, none⟩), .pointer (some ⟨bn, 0, none⟩)] W
      (NextPost W0 bf bm (n + costS r) (fun i f => nextR p l (p.sends.length - i) i f = none) pre W (nextR p l r i f)) := by
  generalize hG : (fun (i : Nat) (f : Int) => nextR p l (p.sends.length - i) i f = none) = G
  intro r
  induction r with
  | zero =>
    intro i f pre ah ch n W hir hf hpre hah hn hfr hS hD hc
    obtain rfl : i = p.sends.length := by omega
    have hbS : Below W.heap.size W (W.alloc (.cells #[.int .i64 (p.sends.length : Int)] 3)) := (Below.refl _ _).alloc (Nat.le_refl _) _
    have kx0 : (W.alloc (.cells #[.int .i64 (p.sends.length : Int)] 3)).cell? ⟨W.heap.size, 0, none⟩ = some (.int .i64 (p.sends.length : Int)) := by rw [World.cell?_alloc_at _ _ _ _ rfl]; rfl
    have hI : ((p.sends.length : Int) == (p.sends.length : Int)) = true := by simp
    have Hpre := Lib.hid hpre
    clear hpre
    have S1 := hS.below hbS
    have ha1 := hah.below hbS
    clear h0 hir hah hD
    go_enter Try.func105, Try.ntmps105
    go_wp2
    obtain ⟨WS, hWS⟩ : ∃ z : World, z = W.alloc (.cells #[.int .i64 (p.sends.length : Int)] 3) := ⟨_, rfl⟩
    rw [← hWS] at hbS kx0 S1 ha1 ⊢
    clear hWS
    have hb := S1.b
    have kw := (hb.cell (p := ⟨bw, 0, none⟩) (cell_lt S0.kw)).trans S0.kw
    have lw := cell_ltK kw
    have lx := cell_ltK kx0
    have q0 : WS.cell? ⟨Bw, 0, none⟩ = some (.slice a p.sends.length c) := by
      obtain ⟨Bm, nm, cW, _⟩ := S0.hw
      have cWr : Cells WS Bw _ _ := (hb.block Bw cW.lt).trans cW
      have := cWr.cell 0
      simpa using this
    have lW := cell_ltK q0
    (refine wp_region_ext 8 (by kernel_rfl) (by kernel_rfl) ?_; simp only [List.take_succ_cons, List.take_zero, List.drop_succ_cons, List.drop_zero]; (repeat (go_big_quiet_step ((fail)))); refine wpQuiet_nil ?_; rintro _ ⟨ex, rfl⟩; have hex := ex.below; have hexz := ex.size; (try simp at hexz); (try (have hy0 : w.heap.size < ex.to.heap.size := by omega)); (try (have hy1 : w.heap.size + 1 < ex.to.heap.size := by omega)); (try (have hy2 : w.heap.size + 2 < ex.to.heap.size := by omega)))
    have S2 := S1.below hex
    have ha2 := ha1.below hex
    have hz2 := hex.size
    obtain ⟨W2, hW2⟩ : ∃ z : World, z = ex.to := ⟨_, rfl⟩
    have hbW : Below W.heap.size W W2 := by rw [hW2]; exact hbS.trans (hex.mono hbS.size)
    rw [← hW2] at S2 ha2 hz2 ⊢
    clear hW2 S1 ha1 hex
    obtain ⟨v, hv⟩ := S2.kf
    have ff := S2.ff
    have lf := cell_ltK hv
    have b2 := S2.b
    clear S2 hS
    go_wp2
    go_ret
    refine ⟨rfl, b2.setCell (p := ⟨bf, 0, none⟩) hbf _, fun b o v hne hc => ck_set hne (below_cell hbW hc), ah, ch, ?_, ?_⟩
    · rw [World.cell?_setCell_same _ _ _ hv]; simp
    · rw [List.append_nil]
      intro k hk
      obtain ⟨b', off, hae, hlt, hcc⟩ := ha2 k hk
      refine ⟨b', off, hae, by simpa using hlt, ck_set (fun e => ?_) hcc⟩
      simp at e
      exact hfr off (by rw [hae, e])
  | succ r ih =>
    intro i f pre ah ch n W hir hf hpre hah hn hfr hS hD hc
    have hi : i < p.sends.length := by omega
    have Hpre := Lib.hid hpre
    have hbS : Below W.heap.size W (W.alloc (.cells #[.int .i64 (i : Int)] 3)) := (Below.refl _ _).alloc (Nat.le_refl _) _
    have kx0 : (W.alloc (.cells #[.int .i64 (i : Int)] 3)).cell? ⟨W.heap.size, 0, none⟩ = some (.int .i64 (i : Int)) := by rw [World.cell?_alloc_at _ _ _ _ rfl]; rfl
    have hI : ((i : Int) == (p.sends.length : Int)) = false := by simp; omega
    have S1 := hS.below hbS
    have ha1 := hah.below hbS
    have D1 := hD.below hbS
    have mapW := hD.isMap
    obtain ⟨oo, hoo⟩ : ∃ oo, nextR p l (r + 1) i f = oo := ⟨_, rfl⟩
    rw [hoo]
    have Hoo := Lib.hid hoo
    have Hn := Lib.hid hn
    obtain ⟨n4, r3, _⟩ := postErr_ok h0
    have hhs := post_hours h0
    have Hne := Lib.hid (post_ne h0 hi)
    have hcs : costS (r + 1) = 102 * costS r + 1 := rfl
    have Hcs := Lib.hid hcs
    have hSK := Lib.hid hS
    clear hah hpre hD hoo hn hcs
    go_enter Try.func105, Try.ntmps105
    go_wp2
    obtain ⟨WS, hWS⟩ : ∃ z : World, z = W.alloc (.cells #[.int .i64 (i : Int)] 3) := ⟨_, rfl⟩
    rw [← hWS] at hbS kx0 S1 ha1 D1 ⊢
    clear hWS
    have hb := S1.b
    have kw := (hb.cell (p := ⟨bw, 0, none⟩) (cell_lt S0.kw)).trans S0.kw
    have lw := cell_ltK kw
    have lx := cell_ltK kx0
    have q0 : WS.cell? ⟨Bw, 0, none⟩ = some (.slice a p.sends.length c) := by
      obtain ⟨Bm, nm, cW, _⟩ := S0.hw
      have cWr : Cells WS Bw _ _ := (hb.block Bw cW.lt).trans cW
      have := cWr.cell 0
      simpa using this
    have lW := cell_ltK q0
    (refine wp_region_ext 8 (by kernel_rfl) (by kernel_rfl) ?_; simp only [List.take_succ_cons, List.take_zero, List.drop_succ_cons, List.drop_zero]; (repeat (go_big_quiet_step ((fail)))); refine wpQuiet_nil ?_; rintro _ ⟨ex, rfl⟩; have hex := ex.below; have hexz := ex.size; (try simp at hexz); (try (have hy0 : w.heap.size < ex.to.heap.size := by omega)); (try (have hy1 : w.heap.size + 1 < ex.to.heap.size := by omega)); (try (have hy2 : w.heap.size + 2 < ex.to.heap.size := by omega)))
    have S2 := S1.below hex
    have ha2 := ha1.below hex
    have D2 := D1.below hex
    have kx2 := below_cell hex kx0
    obtain ⟨W2, hW2⟩ : ∃ z : World, z = ex.to := ⟨_, rfl⟩
    have hbW : Below W.heap.size W W2 := by rw [hW2]; exact hbS.trans (hex.mono hbS.size)
    rw [← hW2] at S2 ha2 D2 kx2 ⊢
    clear hW2 S1 ha1 hex D1 hS kw lw lx q0 lW kx0 hbS hexz
    have kd := S2.kd
    have lx := cell_ltK kx2
    have ld := cell_ltK kd
    obtain ⟨dd, hrun, hdd⟩ := D2.look i f (by omega) (by omega)
    have hrun' := hrun ⟨W2, Below.refl _ _⟩
    dsimp only at hrun'
    clear hrun
    cases dd
    · go_wp2
      clear hrun' kd hdd
      go_loopw [29] (fun o wr => ∃ k : Nat, k ≤ 102 ∧ o = .int .i64 k ∧ (∀ j, j < k → nextG p l r i f j = none) ∧ Keep bm W2 wr ∧ DeadAt wr bm (n + k * costS r) G) (fun o _ => 102 - (intOf o).toNat)
      case atStart => exact ⟨0, by omega, rfl, fun j hj => absurd hj (Nat.not_lt_zero j), Keep.refl D2.isMap, by simpa using D2⟩
      case round =>
        obtain ⟨k, hk, rfl, hno, hkp, hDr⟩ := hrel
        have Hno := Lib.hid hno
        clear hno
        have Sr := S2.keep hkp hbm
        have har := ha2.keep hkp
        have kxr := hkp.cell kx2
        have hkz := hkp.size
        by_cases hk102 : k < 102
        · have hb := Sr.b
          have kw := (hb.cell (p := ⟨bw, 0, none⟩) (cell_lt S0.kw)).trans S0.kw
          have lw := cell_ltK kw
          have lx := cell_ltK kxr
          obtain ⟨q0, q1, q2⟩ : wr.cell? ⟨Bw, 0, none⟩ = some (.slice a p.sends.length c) ∧ wr.cell? ⟨Bw, 1, none⟩ = some (.slice ar p.routes.length cr) ∧ wr.cell? ⟨Bw, 2, none⟩ = some (.int .i64 p.pat) := by
            obtain ⟨Bm, nm, cW, _⟩ := S0.hw
            have cWr : Cells wr Bw _ _ := (hb.block Bw cW.lt).trans cW
            have h0 := cWr.cell 0
            have h1 := cWr.cell 1
            have h2 := cWr.cell 2
            exact ⟨by simpa using h0, by simpa using h1, by simpa using h2⟩
          have lW := cell_ltK q0
          have hsr := fun X (b : Below wr.heap.size wr X) => S0.hs.below (hb.trans (b.mono hb.size))
          have hrv := fun X (b : Below wr.heap.size wr X) => receive_any a c ar cr p i f (k : Int) X (hsr X b) hi (by omega) (by have := hhs.s _ (List.getElem_mem hi); omega) (by have := hhs.p; omega)
          have hat := recv_at (p := p) (i := i) (f := f) (h := k) hf (by omega)
          have Hen : Hid (∃ e : Ent, recvF p i f k = e ∧ e.num = i) := Lib.hid ⟨_, rfl, rfl⟩
          obtain ⟨en, hen, hnum⟩ := Hen.out
          have hgk : Hid (nextG p l r i f k = if canB p i k && fitsB l en i then (nextR p l r (i + 1) en.at_).map ((k : Int) :: ·) else none) := Lib.hid (by unfold nextG; rw [hen])
          rw [hen] at hrv hat
          have Hnum := Lib.hid hnum
          clear hen hnum Hen
          go_wp2
          (refine wp_region_seq 9 [] [9] 69 [true, true, true, true, true, true, true, true, false] [PtrV wr.heap.size #[.int .i64 0, .int .i64 0, .bool false] 82] (by kernel_rfl) (by kernel_rfl) rfl (mono_cons (fun v w w' h hb => h.kept hb) mono_nil) ?_; simp only [pickOps, List.filterMap_cons, List.filterMap_nil, List.getElem?_toArray, List.getElem?_cons_succ, List.getElem?_cons_zero]; (repeat (refine wpFl_step _ rfl (fun w => (by go_simp; rfl)) ?_)); refine wpFl_nil ?_; simp only [maskOps, dummy, Act.put, List.setIfInBounds_toArray, List.set_cons_zero, List.set_cons_succ, List.take_succ_cons, List.take_zero, List.drop_succ_cons, List.drop_zero]; (repeat (refine wpQB_step (fun K hK => ?_); go_simp; first | (refine hK _ ?_; clear hK K) | (apply Exists.intro; refine ⟨fun ex => ?_, hK _ ?_⟩; ((go_at_call 98; exact hrv _ ex.below)); clear hK K))); refine wpQB_nil ?_; simp only [relObl2, under, relEnd, and_true, List.nil_append, List.cons_append])
          refine ⟨?_, ?_⟩
          · intro e
            go_simp
            exact ⟨(Below.refl _ _).alloc (Nat.le_refl _) _, e.to.heap.size, rfl, by have := e.size; omega, Cells.new _ _ _⟩
          intro e
          rintro v1 ⟨Be, rfl, hBe, CE⟩
          simp only [Act.put, List.setIfInBounds_toArray, List.set_cons_zero, List.set_cons_succ]
          have he5 := e.below
          obtain ⟨w5, hw5⟩ : ∃ x : World, x = e.to := ⟨_, rfl⟩
          rw [← hw5] at he5 CE ⊢
          clear hw5 e
          have z0 := CE.cell 0
          have z1 := CE.cell 1
          have z2 := CE.cell 2
          have y0 := CE.frozen 0
          have y1 := CE.frozen 1
          have y2 := CE.frozen 2
          have lE := CE.lt
          simp at z0 z1 z2
          go_wp2
          obtain ⟨W9, hW9⟩ : ∃ x : World, x = ((w5.setCell ⟨Be, 0, none⟩ (.int .i64 (i : Int))).setCell ⟨Be, 1, none⟩ (.int .i64 en.at_)).setCell ⟨Be, 2, none⟩ (.bool en.skip) := ⟨_, rfl⟩
          have b9 : Below wr.heap.size wr W9 := by rw [hW9]; exact ((he5.setCell (p := ⟨Be, 0, none⟩) hBe _).setCell (p := ⟨Be, 1, none⟩) hBe _).setCell (p := ⟨Be, 2, none⟩) hBe _
          have C9 : Cells W9 Be #[.int .i64 en.num, .int .i64 en.at_, .bool en.skip] 82 := by rw [hW9, Hnum.out]; exact ((CE.set 0 _).set 1 _).set 2 _
          rw [← hW9]
          clear hW9 z0 z1 z2 y0 y1 y2 lE CE he5 hsr hrv q0 q1 q2 lW
          have b0 := hb.trans (b9.mono hb.size)
          have kw9 := below_cell b9 kw
          have kx9 := below_cell b9 kxr
          have kn9 := below_cell b9 Sr.kn
          have kl9 := (b0.cell (p := ⟨bl, 0, none⟩) (cell_lt S0.kl)).trans S0.kl
          have ka9 : W9.cell? ⟨Be, 1, none⟩ = some (.int .i64 en.at_) := by have := C9.cell 1; simpa using this
          have lw := cell_ltK kw9
          have lx := cell_ltK kx9
          have ln := cell_ltK kn9
          have lll := cell_ltK kl9
          have lE := cell_ltK ka9
          have hcan := fun X (b : Below W9.heap.size W9 X) => can_any a c ar cr p Bw i k X ((S0.hw.below b0).below b) ((S0.hr.below b0).below b) r3 hi n4 Hne.out (by omega)
          have hcon : ∀ X, Below W9.heap.size W9 X → Calls Try.prog 108 #[.slice al l.length cl, .func (.func 106) #[] #[.pointer (some ⟨W.heap.size, 0, none⟩), .pointer (some ⟨Be, 0, none⟩)]] X fun e w' => e = .returned (.bool (l.any (wrongB i en))) ∧ Below X.heap.size X w' :=
            fun X b => containsFunc_entry al l cl 106 #[] #[.pointer (some ⟨W.heap.size, 0, none⟩), .pointer (some ⟨Be, 0, none⟩)] (wrongB i en) X (by omega) ((S0.he.below b0).below b) (enters Try.func106 (by kernel_rfl) rfl) (fun x _ => wrong_meets i en W.heap.size Be X (below_cell b kx9) (C9.below b) x)
          obtain ⟨cb, hcb⟩ : ∃ cb, canB p i k = cb := ⟨_, rfl⟩
          obtain ⟨wb, hwb⟩ : ∃ wb, l.any (wrongB i en) = wb := ⟨_, rfl⟩
          have hgk2 : nextG p l r i f k = if cb && !wb then (nextR p l r (i + 1) en.at_).map ((k : Int) :: ·) else none := by rw [hgk.out]; unfold fitsB; rw [hcb, hwb]
          rw [hcb] at hcan
          rw [hwb] at hcon
          have Hgk := Lib.hid hgk2
          clear hgk2 hgk hcb hwb
          have hmul : n + k * costS r ≤ n + (k + 1) * costS r := Nat.add_le_add_left (Nat.mul_le_mul_right _ (Nat.le_succ k)) n
          cases cb
          · (refine wp_region_ext 23 (by kernel_rfl) (by kernel_rfl) ?_; simp only [List.take_succ_cons, List.take_zero, List.drop_succ_cons, List.drop_zero]; (repeat (go_big_quiet_step (((go_at_call 107; refine Calls_ext (hcan _ (Ext.below _))))))); refine wpQuiet_nil ?_; rintro _ ⟨ex, rfl⟩; have hex := ex.below; have hexz := ex.size; (try simp at hexz); (try (have hy0 : w.heap.size < ex.to.heap.size := by omega)); (try (have hy1 : w.heap.size + 1 < ex.to.heap.size := by omega)); (try (have hy2 : w.heap.size + 2 < ex.to.heap.size := by omega)))
            go_wp2
            go_roundw
            case rel => exact ⟨k + 1, by omega, by go_num, below_succ Hno.out (by rw [Hgk.out]; rfl), hkp.below (b9.trans (hex.mono b9.size)), (hDr.below (b9.trans (hex.mono b9.size))).mono hmul⟩
            case measure => simp [intOf]; omega
          · cases wb
            · have nw : bw ≠ bf := by have : bw < W0.heap.size := cell_lt S0.kw; omega
              have nl : bl ≠ bf := by have : bl < W0.heap.size := cell_lt S0.kl; omega
              have lbf : bf < W.heap.size := by obtain ⟨v, hv⟩ := hSK.out.kf; exact cell_ltK hv
              have nx : W.heap.size ≠ bf := by omega
              have nE : Be ≠ bf := by omega
              have har9 := har.below b9
              have S9 := Sr.below b9
              have D9 := hDr.below b9
              have hn9 := Hn.out
              have hpl : pre.length ≤ 1000 := by have := Hpre.out; omega
              have hi1 : IntKind.i64.wrap ((i : Int) + 1) = ((i + 1 : Nat) : Int) := by rw [IntWalk.i64_in _ (by omega)]; rfl
              have hcl := fun X (b : Below W9.heap.size W9 X) => clone_any ah pre ch X (har9.below b) hn9 (by omega)
              obtain ⟨o2, ho2⟩ : ∃ o2, nextR p l r (i + 1) en.at_ = o2 := ⟨_, rfl⟩
              have hnx : ∀ X, Below W9.heap.size W9 X → ∀ g' c', OwnL 3 1 W9.heap.size X (some ⟨g', 0, none⟩) c' (pre.length + 1) (pre.map (Value.int .i64) ++ [.int .i64 (k : Int)]) →
                  Calls Try.prog 105 #[.int .i64 ((i + 1 : Nat) : Int), .int .i64 en.at_, .slice (some ⟨g', 0, none⟩) (pre.length + 1) c', .pointer (some ⟨bw, 0, none⟩), .pointer (some ⟨bf, 0, none⟩), .pointer (some ⟨bd, 0, none⟩), .pointer (some ⟨bl, 0, none⟩), .pointer (some ⟨bn, 0, none⟩)] X
                    (NextPost W0 bf bm (n + k * costS r + costS r) G (pre ++ [(k : Int)]) X o2) := by
                intro X b g' c' hown
                have hown2 : OwnL 3 1 W9.heap.size X (some ⟨g', 0, none⟩) c' (pre.length + 1) ((pre ++ [(k : Int)]).map (Value.int .i64)) := by rw [List.map_append]; exact hown
                have hg' : W9.heap.size ≤ g' := by
                  rcases hown.form with ⟨h, _⟩ | ⟨g2, h, h2, _⟩
                  · cases h
                  · simp at h; omega
                have := ih (i + 1) en.at_ (pre ++ [(k : Int)]) (some ⟨g', 0, none⟩) c' (n + k * costS r) X (by omega) hat (by have := Hpre.out; simp; try omega) hown2.ints.1 (fun h => by cases h) (fun off h => by simp at h <;> omega) (S9.below b) (D9.below b) (by have := Hcs.out; have h5 : (k + 1) * costS r ≤ 102 * costS r := Nat.mul_le_mul_right _ (by omega); rw [Nat.succ_mul] at h5; omega)
                rw [ho2, show (pre ++ [(k : Int)]).length = pre.length + 1 by simp] at this
                exact this
              rw [ho2] at Hgk
              have elI := elInt
              clear ho2 ih har9 S9 D9 hn9
              cases o2 with
              | none =>
                go_region_held3 (fun w' => w'.cell? ⟨bw, 0, none⟩ = some (.pointer (some ⟨Bw, 0, none⟩)) ∧ w'.cell? ⟨W.heap.size, 0, none⟩ = some (.int .i64 (i : Int)) ∧ w'.cell? ⟨bl, 0, none⟩ = some (.slice al l.length cl) ∧ w'.cell? ⟨bn, 0, none⟩ = some (.func (.func 105) #[] #[.pointer (some ⟨bw, 0, none⟩), .pointer (some ⟨bf, 0, none⟩), .pointer (some ⟨bd, 0, none⟩), .pointer (some ⟨bl, 0, none⟩), .pointer (some ⟨bn, 0, none⟩)]) ∧ w'.cell? ⟨Be, 1, none⟩ = some (.int .i64 en.at_))
                  (first
                    | go_keep
                    | (go_split_ands; refine ⟨?_, ?_, ?_, ?_, ?_⟩ <;> (first | exact below_cell (by assumption) (by assumption) | exact ck_alloc (by assumption) | exact (hb4.cell (by assumption)).trans (by assumption) | exact hk5.cell (by assumption))))
                  (first
                    | (go_at_call 107; refine (hcan _ (by (repeat (first | exact Below.refl _ _ | refine Below.alloc ?_ (by first | omega | (simp; done) | (simp; omega)) _ | refine Below.drew ?_ | refine Below.setCell ?_ (by first | omega | (simp; done) | (simp; omega)) _ | refine Below.trans ?_ (Below.mono (by assumption) (by first | omega | (simp; done) | (simp; omega))))))).mono ?_; rintro e w1 ⟨rfl, hb1⟩; have hz1 := hb1.size; (try simp at hz1))
                    | (go_at_call 108; refine (hcon _ (by (repeat (first | exact Below.refl _ _ | refine Below.alloc ?_ (by first | omega | (simp; done) | (simp; omega)) _ | refine Below.drew ?_ | refine Below.setCell ?_ (by first | omega | (simp; done) | (simp; omega)) _ | refine Below.trans ?_ (Below.mono (by assumption) (by first | omega | (simp; done) | (simp; omega))))))).mono ?_; rintro e w2 ⟨rfl, hb2⟩; have hz2 := hb2.size; (try simp at hz2))
                    | (go_at_call 81; refine (hcl _ (by (repeat (first | exact Below.refl _ _ | refine Below.alloc ?_ (by first | omega | (simp; done) | (simp; omega)) _ | refine Below.drew ?_ | refine Below.setCell ?_ (by first | omega | (simp; done) | (simp; omega)) _ | refine Below.trans ?_ (Below.mono (by assumption) (by first | omega | (simp; done) | (simp; omega))))))).mono ?_; rintro e w3 ⟨a3, c3, rfl, hown3, hb3⟩; have hz3 := hb3.size; (try simp at hz3))
                    | (refine step_app elI (by rfl) _ _ rfl W9.heap.size a3 pre.length c3 _ rfl ((OwnL.base_le hown3 (by first | omega | (simp; omega))).alloc _) _ 1 1 _ rfl rfl (Cells.src (Cells.new _ _ _)) (by simp [Value.oneCell']) (by omega) (by unfold maxLen; omega) (by omega) (by first | omega | (simp; omega)) ?_; intro g4 c4 w4 hown4 hb4; have hB4 : Below W9.heap.size W9 w4 := by (repeat (first | exact Below.refl _ _ | refine Below.alloc ?_ (by first | omega | (simp; done) | (simp; omega)) _ | refine Below.drew ?_ | refine Below.setCell ?_ (by first | omega | (simp; done) | (simp; omega)) _ | refine Below.trans ?_ (Below.mono (by assumption) (by first | omega | (simp; done) | (simp; omega))))))
                    | (refine step_app elI (by rfl) _ _ rfl W9.heap.size a3 pre.length c3 _ rfl (OwnL.base_le hown3 (by first | omega | (simp; omega))) _ 1 1 _ rfl rfl (Cells.src (Cells.below (Cells.new _ _ _) hb3)) (by simp [Value.oneCell']) (by omega) (by unfold maxLen; omega) (by omega) (by first | omega | (simp; omega)) ?_; intro g4 c4 w4 hown4 hb4; have hB4 : Below W9.heap.size W9 w4 := by (repeat (first | exact Below.refl _ _ | refine Below.alloc ?_ (by first | omega | (simp; done) | (simp; omega)) _ | refine Below.drew ?_ | refine Below.setCell ?_ (by first | omega | (simp; done) | (simp; omega)) _ | refine Below.trans ?_ (Below.mono (by assumption) (by first | omega | (simp; done) | (simp; omega))))))
                    | (go_at_call 105; refine (hnx _ hB4 _ _ hown4).mono ?_; rintro e w5 ⟨rfl, hk5, hd5⟩))
                all_goals
                  go_wp2
                  go_roundw
                  case rel => exact ⟨k + 1, by omega, by go_num, below_succ Hno.out (by rw [Hgk.out]; rfl), hkp.trans ((Keep.of_below hDr.isMap (b9.trans (hB4.mono b9.size))).trans hk5), hd5.mono (by rw [Nat.succ_mul]; omega)⟩
                  case measure => simp [intOf]; omega
              | some z =>
                go_region_held3 (fun w' => w'.cell? ⟨bw, 0, none⟩ = some (.pointer (some ⟨Bw, 0, none⟩)) ∧ w'.cell? ⟨W.heap.size, 0, none⟩ = some (.int .i64 (i : Int)) ∧ w'.cell? ⟨bl, 0, none⟩ = some (.slice al l.length cl) ∧ w'.cell? ⟨bn, 0, none⟩ = some (.func (.func 105) #[] #[.pointer (some ⟨bw, 0, none⟩), .pointer (some ⟨bf, 0, none⟩), .pointer (some ⟨bd, 0, none⟩), .pointer (some ⟨bl, 0, none⟩), .pointer (some ⟨bn, 0, none⟩)]) ∧ w'.cell? ⟨Be, 1, none⟩ = some (.int .i64 en.at_))
                  (first
                    | go_keep
                    | (go_split_ands; refine ⟨?_, ?_, ?_, ?_, ?_⟩ <;> (first | exact below_cell (by assumption) (by assumption) | exact ck_alloc (by assumption) | exact (hb4.cell (by assumption)).trans (by assumption) | exact hcl5 _ _ _ (by assumption) (by assumption))))
                  (first
                    | (go_at_call 107; refine (hcan _ (by (repeat (first | exact Below.refl _ _ | refine Below.alloc ?_ (by first | omega | (simp; done) | (simp; omega)) _ | refine Below.drew ?_ | refine Below.setCell ?_ (by first | omega | (simp; done) | (simp; omega)) _ | refine Below.trans ?_ (Below.mono (by assumption) (by first | omega | (simp; done) | (simp; omega))))))).mono ?_; rintro e w1 ⟨rfl, hb1⟩; have hz1 := hb1.size; (try simp at hz1))
                    | (go_at_call 108; refine (hcon _ (by (repeat (first | exact Below.refl _ _ | refine Below.alloc ?_ (by first | omega | (simp; done) | (simp; omega)) _ | refine Below.drew ?_ | refine Below.setCell ?_ (by first | omega | (simp; done) | (simp; omega)) _ | refine Below.trans ?_ (Below.mono (by assumption) (by first | omega | (simp; done) | (simp; omega))))))).mono ?_; rintro e w2 ⟨rfl, hb2⟩; have hz2 := hb2.size; (try simp at hz2))
                    | (go_at_call 81; refine (hcl _ (by (repeat (first | exact Below.refl _ _ | refine Below.alloc ?_ (by first | omega | (simp; done) | (simp; omega)) _ | refine Below.drew ?_ | refine Below.setCell ?_ (by first | omega | (simp; done) | (simp; omega)) _ | refine Below.trans ?_ (Below.mono (by assumption) (by first | omega | (simp; done) | (simp; omega))))))).mono ?_; rintro e w3 ⟨a3, c3, rfl, hown3, hb3⟩; have hz3 := hb3.size; (try simp at hz3))
                    | (refine step_app elI (by rfl) _ _ rfl W9.heap.size a3 pre.length c3 _ rfl ((OwnL.base_le hown3 (by first | omega | (simp; omega))).alloc _) _ 1 1 _ rfl rfl (Cells.src (Cells.new _ _ _)) (by simp [Value.oneCell']) (by omega) (by unfold maxLen; omega) (by omega) (by first | omega | (simp; omega)) ?_; intro g4 c4 w4 hown4 hb4; have hB4 : Below W9.heap.size W9 w4 := by (repeat (first | exact Below.refl _ _ | refine Below.alloc ?_ (by first | omega | (simp; done) | (simp; omega)) _ | refine Below.drew ?_ | refine Below.setCell ?_ (by first | omega | (simp; done) | (simp; omega)) _ | refine Below.trans ?_ (Below.mono (by assumption) (by first | omega | (simp; done) | (simp; omega))))))
                    | (refine step_app elI (by rfl) _ _ rfl W9.heap.size a3 pre.length c3 _ rfl (OwnL.base_le hown3 (by first | omega | (simp; omega))) _ 1 1 _ rfl rfl (Cells.src (Cells.below (Cells.new _ _ _) hb3)) (by simp [Value.oneCell']) (by omega) (by unfold maxLen; omega) (by omega) (by first | omega | (simp; omega)) ?_; intro g4 c4 w4 hown4 hb4; have hB4 : Below W9.heap.size W9 w4 := by (repeat (first | exact Below.refl _ _ | refine Below.alloc ?_ (by first | omega | (simp; done) | (simp; omega)) _ | refine Below.drew ?_ | refine Below.setCell ?_ (by first | omega | (simp; done) | (simp; omega)) _ | refine Below.trans ?_ (Below.mono (by assumption) (by first | omega | (simp; done) | (simp; omega))))))
                    | (go_at_call 105; refine (hnx _ hB4 _ _ hown4).mono ?_; rintro e w5 ⟨rfl, hW5, hcl5, a5, c5, hf5, hi5⟩))
                all_goals
                  have hsome : nextR p l (r + 1) i f = some ((k : Int) :: z) := nextR_some hk102 Hno.out (by rw [Hgk.out]; rfl)
                  obtain rfl : oo = some ((k : Int) :: z) := by rw [← Hoo.out]; exact hsome
                  have cc : ∀ b o v, W.cell? ⟨b, o, none⟩ = some v → w4.cell? ⟨b, o, none⟩ = some v := fun b o v h => by
                    have h1 := below_cell b9 (hkp.cell (below_cell hbW h))
                    exact (hB4.cell (p := ⟨b, o, none⟩) (cell_ltK h1)).trans h1
                  have happ : (pre ++ [(k : Int)]) ++ z = pre ++ (k : Int) :: z := by simp
                  rw [happ] at hf5 hi5
                  clear hsome Hoo
                  go_wp2
                  go_ret
                  exact ⟨rfl, hW5, fun b o v hne h => hcl5 b o v hne (cc b o v h), a5, c5, hf5, hi5⟩
            · (refine wp_region_ext 23 (by kernel_rfl) (by kernel_rfl) ?_; simp only [List.take_succ_cons, List.take_zero, List.drop_succ_cons, List.drop_zero]; (repeat (go_big_quiet_step ((first | (go_at_call 107; refine Calls_ext (hcan _ (Ext.below _))) | (go_at_call 108; refine Calls_ext (hcon _ (Ext.below _))))))); refine wpQuiet_nil ?_; rintro _ ⟨ex, rfl⟩; have hex := ex.below; have hexz := ex.size; (try simp at hexz); (try (have hy0 : w.heap.size < ex.to.heap.size := by omega)); (try (have hy1 : w.heap.size + 1 < ex.to.heap.size := by omega)); (try (have hy2 : w.heap.size + 2 < ex.to.heap.size := by omega)))
              go_wp2
              go_roundw
              case rel => exact ⟨k + 1, by omega, by go_num, below_succ Hno.out (by rw [Hgk.out]; rfl), hkp.below (b9.trans (hex.mono b9.size)), (hDr.below (b9.trans (hex.mono b9.size))).mono hmul⟩
              case measure => simp [intOf]; omega
        · obtain rfl : k = 102 := by omega
          have hnone : nextR p l (r + 1) i f = none := nextR_none Hno.out
          obtain rfl : oo = none := by rw [← Hoo.out]; exact hnone
          have hg : G i f := by rw [← hG]; show nextR p l (p.sends.length - i) i f = none; rw [show p.sends.length - i = r + 1 by omega]; exact hnone
          have hnm : n + 102 * costS r < maxLen := by have := Hcs.out; omega
          have kd := Sr.kd
          have ld := cell_ltK kd
          have lx := cell_ltK kxr
          clear hnone Hoo
          go_wp2_with (at_mapUpdate; refine wpList_dead_put i f (by omega) (by omega) rfl _ _ _ rfl rfl rfl rfl hg hDr hnm ?_; intro W8 hD8 hk8)
          go_wp2
          go_ret
          exact ⟨rfl, ((Keep.of_below mapW hbW).trans hkp).trans hk8, hD8.mono (by have := Hcs.out; omega)⟩
    · have hnone : nextR p l (r + 1) i f = none := by
        have := hdd rfl
        rw [← hG] at this
        have this : nextR p l (p.sends.length - i) i f = none := this
        rwa [show p.sends.length - i = r + 1 by omega] at this
      obtain rfl : oo = none := by rw [← Hoo.out]; exact hnone
      clear hnone Hoo hdd
      go_wp2
      go_ret
      exact ⟨rfl, Keep.of_below mapW hbW, D2.mono (by omega)⟩
end Go.Proofs.Ytfclemnkcpadpaa
