/- cipher: the law's conversions · cipher: the examples · cipher: awake · cipher: the reference's Code -/
import Derived.Test.YtnofcpihkglmmaaCel
import Derived.Test.YtnofcpihkglmmaaDa
import Derived.Test.YtnofcpihkglmmaaFlo
namespace Go.Proofs.Ytnofcpihkglmmaa
set_option linter.unusedVariables false
set_option linter.unusedSimpArgs false
set_option linter.unnecessarySimpa false
open Go.RowKit Go.Flow

theorem keyConv_any (m a st : Int) (w : World) :
    Calls Try.prog 36 #[.agg #[.int .i64 m, .int .i64 a, .int .i64 st]] w fun e w' => e = .returned (.agg #[.int .i64 m, .int .i64 a, .int .i64 st]) ∧ Below w.heap.size w w' := by
  go_enter Try.func36, Try.ntmps36
  go_wp2
  exact bodyPost_ret (v := .agg #[.int .i64 m, .int .i64 a, .int .i64 st]) (by simp [results, Try.results36, go_sem]) rfl ⟨rfl, by (repeat (first | exact Below.refl _ _ | refine Below.alloc ?_ (by first | omega | (simp; done) | (simp; omega)) _ | refine Below.drew ?_ | refine Below.setCell ?_ (by first | omega | (simp; done) | (simp; omega)) _ | refine Below.trans ?_ (Below.mono (by assumption) (by first | omega | (simp; done) | (simp; omega)))))⟩

theorem thin_any (s wo : Int) (ak : Option Addr) (nk ck : Nat) (ad : Option Addr) (nd cd : Nat) (w : World) :
    Calls Try.prog 6 #[.agg #[.int .i64 s, .int .i64 wo, .slice ak nk ck, .slice ad nd cd]] w fun e w' => e = .returned (.bool (decide (nk ≤ 8) && decide (nd ≤ 11))) ∧ Below w.heap.size w w' := by
  by_cases h : (nk : Int) ≤ 8
  · have h1 : decide ((nk : Int) ≤ 8) = true := by simpa using h
    have e1 : decide (nk ≤ 8) = true := by simp; omega
    go_enter Try.func6, Try.ntmps6
    go_wp2
    go_ret
    have e2 : decide ((nd : Int) ≤ 11) = decide (nd ≤ 11) := by rw [decide_eq_decide]; omega
    refine ⟨by first | rfl | (rw [e1]; simp [← e2]), by (repeat (first | exact Below.refl _ _ | refine Below.alloc ?_ (by first | omega | (simp; done) | (simp; omega)) _ | refine Below.drew ?_ | refine Below.setCell ?_ (by first | omega | (simp; done) | (simp; omega)) _ | refine Below.trans ?_ (Below.mono (by assumption) (by first | omega | (simp; done) | (simp; omega)))))⟩
  · have h1 : decide ((nk : Int) ≤ 8) = false := by simpa using h
    have e1 : decide (nk ≤ 8) = false := by simp; omega
    go_enter Try.func6, Try.ntmps6
    go_wp2
    go_ret
    refine ⟨by first | rfl | (rw [e1]; rfl), by (repeat (first | exact Below.refl _ _ | refine Below.alloc ?_ (by first | omega | (simp; done) | (simp; omega)) _ | refine Below.drew ?_ | refine Below.setCell ?_ (by first | omega | (simp; done) | (simp; omega)) _ | refine Below.trans ?_ (Below.mono (by assumption) (by first | omega | (simp; done) | (simp; omega)))))⟩

theorem info_key : (Try.prog.info? 57).map (fun i => (i.zero, i.size, i.bytes)) = some (some (.agg #[.int .i64 0, .int .i64 0, .int .i64 0]), 3, 24) := by kernel_rfl
theorem elKey : Elem Try.prog 47 57 (.agg #[.int .i64 0, .int .i64 0, .int .i64 0]) 3 24 := ⟨Try.underlying47, info_parts info_key, rfl, by decide⟩

def flat3 (xs : List K3) : List Value := xs.flatMap fun x => [.int .i64 x.1, .int .i64 x.2.1, .int .i64 x.2.2]
theorem flat3_get : ∀ (xs : List K3) (k : Nat) (h : k < xs.length), (flat3 xs)[k * 3]? = some (.int .i64 xs[k].1) ∧ (flat3 xs)[k * 3 + 1]? = some (.int .i64 xs[k].2.1) ∧ (flat3 xs)[k * 3 + 2]? = some (.int .i64 xs[k].2.2)
  | x :: xs, 0, _ => by simp [flat3]
  | x :: xs, k + 1, h => by
    obtain ⟨a, b, c⟩ := flat3_get xs k (by simpa using h)
    have e : flat3 (x :: xs) = .int .i64 x.1 :: .int .i64 x.2.1 :: .int .i64 x.2.2 :: flat3 xs := by simp [flat3]
    rw [e, show (k + 1) * 3 = k * 3 + 3 by omega]
    exact ⟨a, b, c⟩
theorem flat3_snoc (xs : List K3) (x : K3) : flat3 (xs ++ [x]) = flat3 xs ++ [.int .i64 x.1, .int .i64 x.2.1, .int .i64 x.2.2] := by simp [flat3]
theorem OwnL.recs3 {T : TypeId} {base : Nat} {w : World} {a : Option Addr} {c n : Nat} {xs : List K3} (h : OwnL T 3 base w a c n (flat3 xs)) : Recs3At w a xs := fun k hk => by
  rcases h.form with ⟨_, _, _, h4⟩ | ⟨g, rfl, _, hlt, _, _, _, hc⟩
  · have := (flat3_get xs k hk).1; rw [h4] at this; simp at this
  · obtain ⟨e0, e1, e2⟩ := flat3_get xs k hk
    exact ⟨g, 0, rfl, hlt, by rw [Nat.zero_add]; exact hc _ _ e0, by rw [Nat.zero_add]; exact hc _ _ e1, by rw [Nat.zero_add]; exact hc _ _ e2⟩

def RetBook (B : Nat) (s wo : Int) (ks : List K3) (ds : List Int) (e : Ending) (w' : World) : Prop := ∃ ak ck ad cd, e = .returned (.agg #[.int .i64 s, .int .i64 wo, .slice ak ks.length ck, .slice ad ds.length cd]) ∧ OwnL 57 3 B w' ak ck ks.length (flat3 ks) ∧ OwnL 3 1 B w' ad cd ds.length (ds.map (Value.int .i64))

section
variable {P : Program} {t E : TypeId} {z : Value} {size bytes : Nat} {w : World} {ops : Array Oper} {rest : List Oper} {o : Oper} {a : Act} {Q : Exit → Act → World → Prop}
end
theorem load_book {w : World} {b : Nat} {v0 v1 v2 v3 : Value} (h : Cells w b #[v0, v1, v2, v3] 49) :
    (loadVar 49 ⟨b, 0, none⟩).run Try.prog w = .ok (.agg #[v0, v1, v2, v3]) w := by
  have hi := Try.isAgg49
  have hs := Try.sizeOf49
  have k0 := h.cell 0
  have k1 := h.cell 1
  have k2 := h.cell 2
  have k3 := h.cell 3
  simp at k0 k1 k2 k3
  unfold loadVar
  go_simp
theorem flat3_take (xs : List K3) (k : Nat) (h : k < xs.length) : flat3 (xs.take (k + 1)) = flat3 (xs.take k) ++ [.int .i64 xs[k].1, .int .i64 xs[k].2.1, .int .i64 xs[k].2.2] := by
  rw [List.take_succ_eq_append_getElem h, flat3_snoc]
def BookV (B : Nat) (s wo : Int) (ds : List Int) (v : Value) (w : World) : Prop := ∃ a c, v = .agg #[.int .i64 s, .int .i64 wo, .slice none 0 0, .slice a ds.length c] ∧ OwnL 3 1 B w a c ds.length (ds.map (Value.int .i64))
theorem BookV.kept {B : Nat} {s wo : Int} {ds : List Int} {v : Value} {w w' : World} (h : BookV B s wo ds v w) (hb : Below w.heap.size w w') : BookV B s wo ds v w' := let ⟨a, c, h1, h2⟩ := h; ⟨a, c, h1, h2.kept hb⟩

set_option maxRecDepth 100000 in
set_option maxHeartbeats 4000000 in
theorem bookConv_any (s wo : Int) (ak : Option Addr) (ks : List (Int × Int × Int)) (ck : Nat) (ad : Option Addr) (ds : List Int) (cd : Nat) (w : World) (hk : Recs3At w ak ks) (hd : IntsAt w ad ds) (lk : ks.length ≤ 1000) (ld : ds.length ≤ 1000) (ln : ad = none → cd = 0) :
    Calls Try.prog 13 #[.agg #[.int .i64 s, .int .i64 wo, .slice ak ks.length ck, .slice ad ds.length cd]] w fun e w' => RetBook w.heap.size s wo ks ds e w' ∧ Below w.heap.size w w' := by
  have qB := BookAt.new w s wo ak ks.length ck ad ds.length cd 28
  go_enter Try.func13, Try.ntmps13
  go_wp2
  obtain ⟨W0, hW0⟩ : ∃ x : World, x = (w.alloc (.cells #[.int .i64 s, .int .i64 wo, .slice ak ks.length ck, .slice ad ds.length cd] 28)).alloc (.cells #[.int .i64 0, .int .i64 0, .slice none 0 0, .slice none 0 0] 49) := ⟨_, rfl⟩
  have hb0 : Below w.heap.size w W0 := by rw [hW0]; (repeat (first | exact Below.refl _ _ | refine Below.alloc ?_ (by first | omega | (simp; done) | (simp; omega)) _ | refine Below.drew ?_ | refine Below.setCell ?_ (by first | omega | (simp; done) | (simp; omega)) _ | refine Below.trans ?_ (Below.mono (by assumption) (by first | omega | (simp; done) | (simp; omega)))))
  have hz0 : W0.heap.size = w.heap.size + 1 + 1 := by rw [hW0]; simp
  have hB0 : BookAt W0 w.heap.size s wo ak ks.length ck ad ds.length cd := by rw [hW0]; exact qB.below ((Below.refl _ _).alloc (Nat.le_refl _) _)
  have hr0 : Cells W0 (w.heap.size + 1) #[.int .i64 0, .int .i64 0, .slice none 0 0, .slice none 0 0] 49 := by
    rw [hW0]
    have := Cells.new (w.alloc (.cells #[.int .i64 s, .int .i64 wo, .slice ak ks.length ck, .slice ad ds.length cd] 28)) #[.int .i64 0, .int .i64 0, .slice none 0 0, .slice none 0 0] 49
    rwa [show (w.alloc (.cells #[.int .i64 s, .int .i64 wo, .slice ak ks.length ck, .slice ad ds.length cd] 28)).heap.size = w.heap.size + 1 by simp] at this
  rw [← hW0]
  clear hW0 qB
  obtain ⟨q0, q1, q2, q3⟩ := hB0
  have lB : w.heap.size < W0.heap.size := by omega
  (refine wp_region_seq 9 [] [9] 32 [true, true, true, true, true, true, false, false, false] [OwnV 3 1 (w.heap.size + 2) ds.length (ds.map (Value.int .i64)), BookV (w.heap.size + 2) s wo ds, PtrV (w.heap.size + 2) #[.int .i64 0, .int .i64 0, .slice none 0 0, .slice none 0 0] 49] (by kernel_rfl) (by kernel_rfl) rfl (mono_cons (fun v w w' h hb => h.kept hb) (mono_cons (fun v w w' h hb => h.kept hb) (mono_cons (fun v w w' h hb => h.kept hb) mono_nil))) ?_; simp only [pickOps, List.filterMap_cons, List.filterMap_nil, List.getElem?_toArray, List.getElem?_cons_succ, List.getElem?_cons_zero]; (repeat (refine wpFl_step _ rfl (fun w => (by go_simp; rfl)) ?_)); refine wpFl_nil ?_; simp only [maskOps, dummy, Act.put, List.setIfInBounds_toArray, List.set_cons_zero, List.set_cons_succ, List.take_succ_cons, List.take_zero, List.drop_succ_cons, List.drop_zero]; (repeat (refine wpQB_step (fun K hK => ?_); go_simp; first | (refine hK _ ?_; clear hK K) | (apply Exists.intro; refine ⟨fun ex => ?_, hK _ ?_⟩; (fail); clear hK K))); refine wpQB_nil ?_; simp only [relObl2, under, relEnd, and_true, List.nil_append, List.cons_append])
  refine ⟨⟨fun e => ?_, fun e v1 h1 => ?_, fun e v1 _ v2 _ => ?_⟩, fun e => ?_⟩
  · go_simp
    have heb := e.below
    refine (list_any ad ds cd e.to (hd.below (hb0.trans (heb.mono hb0.size))) (by omega) ln).mono ?_
    rintro r w' ⟨a1, c1, rfl, o1, hb⟩
    exact ⟨hb, a1, c1, rfl, o1.base_le (by have := e.size; omega)⟩
  · obtain ⟨a1, c1, rfl, o1⟩ := h1 (by kernel_rfl)
    go_simp
    exact ⟨Below.refl _ _, a1, c1, rfl, o1⟩
  · go_simp
    exact ⟨(Below.refl _ _).alloc (Nat.le_refl _) _, e.to.heap.size, rfl, by have := e.size; omega, Cells.new _ _ _⟩
  rintro v1 _ v2 ⟨a1, c1, rfl, o1⟩ v3 ⟨g, rfl, hg0, hgc⟩
  simp only [Act.put, List.setIfInBounds_toArray, List.set_cons_zero, List.set_cons_succ]
  have heb := e.below
  have hez := e.size
  obtain ⟨w1, hw1⟩ : ∃ x : World, x = e.to := ⟨_, rfl⟩
  rw [← hw1] at heb hez hgc o1 ⊢
  clear hw1
  have gl := hgc.lt
  have gc0 := hgc.cell 0
  have gc1 := hgc.cell 1
  have gc2 := hgc.cell 2
  have gc3 := hgc.cell 3
  have gf0 := hgc.frozen 0
  have gf1 := hgc.frozen 1
  have gf2 := hgc.frozen 2
  have gf3 := hgc.frozen 3
  simp at gc0 gc1 gc2 gc3
  go_wp2
  have hgc2 := (((hgc.set 0 (.int .i64 s)).set 1 (.int .i64 wo)).set 2 (.slice none 0 0)).set 3 (.slice a1 ds.length c1)
  obtain ⟨wL, hwL⟩ : ∃ x : World, x = (((w1.setCell ⟨g, 0, none⟩ (.int .i64 s)).setCell ⟨g, 1, none⟩ (.int .i64 wo)).setCell ⟨g, 2, none⟩ (.slice none 0 0)).setCell ⟨g, 3, none⟩ (.slice a1 ds.length c1) := ⟨_, rfl⟩
  have hbL : Below (w.heap.size + 2) W0 wL := by
    rw [hwL]
    exact ((((heb.mono (by omega)).setCell (p := ⟨g, 0, none⟩) hg0 _).setCell (p := ⟨g, 1, none⟩) hg0 _).setCell (p := ⟨g, 2, none⟩) hg0 _).setCell (p := ⟨g, 3, none⟩) hg0 _
  have o1' := o1.moved (w' := wL) (by rw [hwL]; simp) (fun b hb => by rw [hwL, Below.heap_setCell _ _ _ _ hb, Below.heap_setCell _ _ _ _ hb, Below.heap_setCell _ _ _ _ hb, Below.heap_setCell _ _ _ _ hb]) (hgc.not_row (by decide) o1)
  rw [← hwL] at hgc2 ⊢
  clear hwL gc0 gc1 gc2 gc3 gf0 gf1 gf2 gf3 hgc gl heb hez o1 q0 q1 q3
  go_loopw [4] (fun i wr => ∃ (k : Nat) (a' : Option Addr) (c' : Nat), k ≤ ks.length ∧ i = .int .i64 k ∧ Cells wr g #[.int .i64 s, .int .i64 wo, .slice a' k c', .slice a1 ds.length c1] 49 ∧
        OwnL 57 3 (w.heap.size + 2) wr a' c' k (flat3 (ks.take k)) ∧ OwnL 3 1 (w.heap.size + 2) wr a1 c1 ds.length (ds.map (Value.int .i64)) ∧ Below (w.heap.size + 2) W0 wr)
      (fun i _ => ks.length - (intOf i).toNat)
  case atStart => exact ⟨0, none, 0, Nat.zero_le _, rfl, hgc2, OwnL.nil _ _ _ _, o1', hbL⟩
  case round =>
    obtain ⟨k, a', c', hkk, rfl, hcs2, hown2, hown3, hb3⟩ := hrel
    have hwr : Below w.heap.size w wr := hb0.trans (hb3.mono (by omega))
    have r2 : wr.cell? ⟨w.heap.size, 2, none⟩ = some (.slice ak ks.length ck) := (hb3.cell (p := ⟨w.heap.size, 2, none⟩) (by simp)).trans q2
    have g2 : wr.cell? ⟨g, 2, none⟩ = some (.slice a' k c') := hcs2.cell 2
    have gl := hcs2.lt
    have wl := cell_lt r2
    simp only at wl
    by_cases hlt : k < ks.length
    · obtain ⟨b, off, rfl, hbl, c0, c1, c2⟩ := (hk.below hwr) k hlt
      have hltI : (k : Int) < (ks.length : Int) := by omega
      obtain ⟨⟨m, a, st⟩, hx⟩ : ∃ x, ks[k] = x := ⟨_, rfl⟩
      rw [hx] at c0 c1 c2
      simp only at c0 c1 c2
      have Hx := Lib.hid hx
      clear hx
      go_wp2
      (refine wp_region_seq 9 [] [9, 10, 11] 32 [true, true, true, true, true, true, true, true, false] [LitV (w.heap.size + 2) 1 #[.int .i64 m, .int .i64 a, .int .i64 st] 57] (by kernel_rfl) (by kernel_rfl) rfl (mono_cons (fun v w w' h hb => h.kept hb) mono_nil) ?_; simp only [pickOps, List.filterMap_cons, List.filterMap_nil, List.getElem?_toArray, List.getElem?_cons_succ, List.getElem?_cons_zero]; (repeat (refine wpFl_step _ rfl (fun w => (by go_simp; rfl)) ?_)); refine wpFl_nil ?_; simp only [maskOps, dummy, Act.put, List.setIfInBounds_toArray, List.set_cons_zero, List.set_cons_succ, List.take_succ_cons, List.take_zero, List.drop_succ_cons, List.drop_zero]; (repeat (refine wpQB_step (fun K hK => ?_); go_simp; first | (refine hK _ ?_; clear hK K) | (apply Exists.intro; refine ⟨fun ex => ?_, hK _ ?_⟩; ((go_at_call 36; exact keyConv_any m a st _)); clear hK K))); refine wpQB_nil ?_; simp only [relObl2, under, relEnd, and_true, List.nil_append, List.cons_append])
      · exact ⟨fun e => by go_simp; exact ⟨(Below.refl _ _).alloc (Nat.le_refl _) _, e.to.heap.size, rfl, by have := e.size; have := hb3.size; omega, Cells.new _ _ _⟩, fun e => by
          rintro v1 ⟨gg, rfl, hg1, hgg⟩
          simp only [Act.put, List.setIfInBounds_toArray, List.set_cons_zero, List.set_cons_succ]
          have heb := e.below
          have hez := e.size
          have hcs3 := hcs2.below heb
          have hown4 := hown2.kept heb
          have hown5 := hown3.kept heb
          obtain ⟨w5, hw5⟩ : ∃ x : World, x = e.to := ⟨_, rfl⟩
          rw [← hw5] at heb hez hgg hcs3 hown4 hown5 ⊢
          clear hw5
          refine wpList_app_g elKey rfl _ _ rfl (w.heap.size + 2) a' k c' _ rfl hown4 (some ⟨gg, 0, none⟩) 1 1 _ rfl (fun h => by cases h) rfl hgg.src (fun u hu => by simp at hu; rcases hu with rfl | rfl | rfl <;> rfl) (by unfold maxLen; omega) (by omega) (by omega) ?_
          intro a6 c6 w6 hown6 hb6 hg6
          have hcs6 := hcs3.grown hg6 (hcs3.not_row (by decide) hown4)
          have hown7 := hown5.grown hg6 (OwnL.apart (by decide) hown5 hown4)
          have g6 := hcs6.cell 2
          have gf6 := hcs6.frozen 2
          have gl6 := hcs6.lt
          simp at g6
          have hcs7 := hcs6.set 2 (.slice a6 (k + 1) c6)
          have hown8 := hown6.moved (w' := w6.setCell ⟨g, 2, none⟩ (.slice a6 (k + 1) c6)) (g := g) (by simp) (fun b hb => Below.heap_setCell _ _ _ _ hb) (hcs6.not_row (by decide) hown6)
          have hown9 := hown7.moved (w' := w6.setCell ⟨g, 2, none⟩ (.slice a6 (k + 1) c6)) (g := g) (by simp) (fun b hb => Below.heap_setCell _ _ _ _ hb) (hcs6.not_row (by decide) hown7)
          have hb9 : Below (w.heap.size + 2) W0 (w6.setCell ⟨g, 2, none⟩ (.slice a6 (k + 1) c6)) := ((hb3.trans (heb.mono (by have := hb3.size; omega))).trans hb6).setCell (p := ⟨g, 2, none⟩) hg0 _
          clear hcs6 hown6 hown7 hcs3 hown4 hown5 hown2 hown3 hcs2 hgg c0 c1 c2 r2 g2
          go_wp2
          go_roundw
          case rel => exact ⟨k + 1, a6, c6, by omega, by go_num, hcs7, by rw [flat3_take ks k hlt, Hx.out]; exact hown8, hown9, hb9⟩
          case measure => simp [intOf]; omega⟩
    · obtain rfl : k = ks.length := by omega
      have gc0 := hcs2.cell 0
      have gc1 := hcs2.cell 1
      have gc2 := hcs2.cell 2
      have gc3 := hcs2.cell 3
      have hr1 : Cells wr (w.heap.size + 1) #[.int .i64 0, .int .i64 0, .slice none 0 0, .slice none 0 0] 49 := (hb3.block (w.heap.size + 1) (by omega)).trans hr0
      have rc0 := hr1.cell 0
      have rc1 := hr1.cell 1
      have rc2 := hr1.cell 2
      have rc3 := hr1.cell 3
      have rf0 := hr1.frozen 0
      have rf1 := hr1.frozen 1
      have rf2 := hr1.frozen 2
      have rf3 := hr1.frozen 3
      have rl := hr1.lt
      simp at gc0 gc1 gc2 gc3 rc0 rc1 rc2 rc3
      go_wp2
      have hrX := (((hr1.set 0 (.int .i64 s)).set 1 (.int .i64 wo)).set 2 (.slice a' ks.length c')).set 3 (.slice a1 ds.length c1)
      refine bodyPost_ret (results_cell1 rfl rfl (load_book hrX)) rfl ?_
      refine ⟨⟨a', c', a1, c1, rfl, ?_, ?_⟩, ?_⟩
      · rw [List.take_length] at hown2
        exact ((((hown2.setCell (by simp) _).setCell (by simp) _).setCell (by simp) _).setCell (by simp) _).base_le (by omega)
      · exact ((((hown3.setCell (by simp) _).setCell (by simp) _).setCell (by simp) _).setCell (by simp) _).base_le (by omega)
      · exact (((hwr.setCell (by simp) _).setCell (by simp) _).setCell (by simp) _).setCell (by simp) _
end Go.Proofs.Ytnofcpihkglmmaa

namespace Go.Proofs.Ytnofcpihkglmmaa
set_option linter.unusedVariables false
set_option linter.unusedSimpArgs false
set_option linter.unnecessarySimpa false
open Go.RowKit Go.Flow

theorem ints_lit (w : World) (cs : Array Value) (T : TypeId) (l : List Int) (h : cs.toList = l.map (Value.int .i64)) : IntsAt (w.alloc (.cells cs T)) (some ⟨w.heap.size, 0, none⟩) l := fun k hk => by
  refine ⟨w.heap.size, 0, rfl, by simp, ?_⟩
  rw [Nat.zero_add]
  refine cell_new w cs T k _ ?_
  rw [← Array.getElem?_toList, h]
  simp [hk]
theorem ints_lit' (w : World) (cs : Array Value) (T : TypeId) (l : List Int) (B : Nat) (hB : B = w.heap.size) (h : cs.toList = l.map (Value.int .i64)) : IntsAt (w.alloc (.cells cs T)) (some ⟨B, 0, none⟩) l := by subst hB; exact ints_lit w cs T l h
theorem RetBook.out {B : Nat} {s wo : Int} {ks : List K3} {ds : List Int} {e : Ending} {w' : World} (h : RetBook B s wo ks ds e w') : ∃ ak ck ad cd, e = .returned (.agg #[.int .i64 s, .int .i64 wo, .slice ak ks.length ck, .slice ad ds.length cd]) ∧ Recs3At w' ak ks ∧ IntsAt w' ad ds :=
  let ⟨ak, ck, ad, cd, he, o1, o2⟩ := h
  ⟨ak, ck, ad, cd, he, o1.recs3, o2.ints.1⟩

theorem same_eq (a : Option Addr) (xs : List Int) (c : Nat) (b : Option Addr) (d : Nat) (w : World) (hx : IntsAt w a xs) (hy : IntsAt w b xs) (lx : xs.length ≤ 1000000) :
    Calls Try.prog 22 #[.slice a xs.length c, .slice b xs.length d] w fun e w' => e = .returned (.bool true) ∧ Below w.heap.size w w' := by
  have := same_any a xs c b xs d w hx hy lx lx
  rwa [show sameB xs xs = true from decide_eq_true rfl] at this
end Go.Proofs.Ytnofcpihkglmmaa

namespace Go.Proofs.Ytnofcpihkglmmaa
set_option linter.unusedVariables false
set_option linter.unusedSimpArgs false
set_option linter.unnecessarySimpa false
open Go.RowKit Go.Flow

end Go.Proofs.Ytnofcpihkglmmaa

namespace Go.Proofs.Ytnofcpihkglmmaa
set_option linter.unusedVariables false
set_option linter.unusedSimpArgs false
set_option linter.unnecessarySimpa false
open Go.RowKit Go.Flow

end Go.Proofs.Ytnofcpihkglmmaa
