/- cipher: Plan -/
import Derived.Test.YtmplgcefhpobgaaCr
import Derived.Laws.EntriesVeiled
namespace Go.Proofs.Ytmplgcefhpobgaa
set_option linter.unusedVariables false
set_option linter.unusedSimpArgs false
set_option linter.unnecessarySimpa false
open Go.RowKit Go.Flow

def spot0 : Spot := ⟨0, 0, 0, 0, 0, 0, 0⟩
def planLeast (nk nd : Nat) (lost : List (Int × Int)) (most : Int) : Int := fewR (fun k => hadN lost k) most nk nd spot0
def planErr (s wo : Int) (ks : List (Int × Int × Int)) (ds : List Int) (lost : List (Int × Int)) (most : Int) : Int :=
  if lossErr s wo ks ds lost ≠ 0 then lossErr s wo ks ds lost
  else if ¬ (0 ≤ most ∧ most ≤ 8) then 2
  else if 1048576 ≤ planLeast ks.length ds.length lost most then 10
  else 0
def planDays (s wo : Int) (ks : List (Int × Int × Int)) (ds : List Int) (lost : List (Int × Int)) (most : Int) : List Int :=
  if planErr s wo ks ds lost most = 0 then planR (fun k => hadN lost k) most ks.length ds.length spot0 (planLeast ks.length ds.length lost most) else []
def planCh (s wo : Int) (ks : List (Int × Int × Int)) (ds : List Int) (lost : List (Int × Int)) (most : Int) : Int :=
  if planErr s wo ks ds lost most = 0 then planLeast ks.length ds.length lost most else 0

/-- A list, a number, an error. -/
def SliceNumErr (B : Nat) (l : List Int) (n err : Int) (e : Ending) (w' : World) : Prop := ∃ a c, e = .returned (.tuple #[.slice a l.length c, .int .i64 n, .int .i64 err]) ∧ OwnL 3 1 B w' a c l.length (l.map (Value.int .i64))
theorem SliceNumErr.err {B : Nat} {err : Int} {w' : World} : SliceNumErr B [] 0 err (.returned (.tuple #[.slice none 0 0, .int .i64 0, .int .i64 err])) w' := ⟨none, 0, rfl, OwnL.nil _ _ _ _⟩

theorem load_list {w : World} {a : Addr} {v : Value} (h : w.cell? a = some v) : (loadVar 23 a).run Try.prog w = .ok v w := by
  have hi := Try.isAgg23
  unfold loadVar
  go_simp

theorem lossErr_ok {s wo : Int} {ks : List (Int × Int × Int)} {ds : List Int} {lost : List (Int × Int)} (h : lossErr s wo ks ds lost = 0) : bookErr s wo ks ds = 0 ∧ lost.length ≤ 6 ∧ lost.all (lossOk ks.length ds.length) = true := by
  unfold lossErr at h
  split at h
  · omega
  · rename_i h1
    split at h
    · omega
    · split at h
      · omega
      · rename_i h3
        exact ⟨by omega, by omega, by simpa using h3⟩

theorem cell_new (w : World) (cs : Array Value) (T : TypeId) (k : Nat) (v : Value) (h : cs[k]? = some v) : (w.alloc (.cells cs T)).cell? ⟨w.heap.size, k, none⟩ = some v := by
  show (match (w.alloc (.cells cs T)).heap[w.heap.size]? with | some (.cells c _ _) => c[k]? | _ => none) = some v
  rw [(MapKept.heap_alloc w _).1]
  exact h
theorem cell_new_lt (w : World) (cs : Array Value) (T : TypeId) : w.heap.size < (w.alloc (.cells cs T)).heap.size := by simp
theorem frozen_new (w : World) (cs : Array Value) (T : TypeId) (k : Nat) : (w.alloc (.cells cs T)).frozen? ⟨w.heap.size, k, none⟩ = false := by
  show (match (w.alloc (.cells cs T)).heap[w.heap.size]? with | some (.cells _ _ (lo, hi)) => decide (lo ≤ k) && decide (k < hi) | _ => false) = false
  rw [(MapKept.heap_alloc w _).1]
  simp

theorem workAt_new (w1 : World) (s wo : Int) (ak : Option Addr) (nk ck : Nat) (ad : Option Addr) (nd cd : Nat) (al : Option Addr) (lost : List (Int × Int)) (cl : Nat) (m : Int) (T T2 : TypeId) (hl : Recs2At w1 al lost) :
    WorkAt (((w1.alloc (.map #[] 0)).alloc (.cells #[.int .i64 s, .int .i64 wo, .slice ak nk ck, .slice ad nd cd, .slice al lost.length cl, .int .i64 m, .map (some w1.heap.size)] T)).alloc (.cells #[.pointer (some ⟨w1.heap.size + 1, 0, none⟩)] T2))
      (w1.heap.size + 1) w1.heap.size ak nk ck ad nd cd al lost cl m := by
  have hz : (w1.alloc (.map #[] 0)).heap.size = w1.heap.size + 1 := by simp
  have hb1 : Below w1.heap.size w1 (w1.alloc (.map #[] 0)) := (Below.refl _ _).alloc (Nat.le_refl _) _
  generalize w1.alloc (.map #[] 0) = wm at hz hb1 ⊢
  rw [← hz]
  have hb : Below (wm.alloc (.cells #[.int .i64 s, .int .i64 wo, .slice ak nk ck, .slice ad nd cd, .slice al lost.length cl, .int .i64 m, .map (some w1.heap.size)] T)).heap.size (wm.alloc (.cells #[.int .i64 s, .int .i64 wo, .slice ak nk ck, .slice ad nd cd, .slice al lost.length cl, .int .i64 m, .map (some w1.heap.size)] T))
    ((wm.alloc (.cells #[.int .i64 s, .int .i64 wo, .slice ak nk ck, .slice ad nd cd, .slice al lost.length cl, .int .i64 m, .map (some w1.heap.size)] T)).alloc (.cells #[.pointer (some ⟨wm.heap.size, 0, none⟩)] T2)) := (Below.refl _ _).alloc (Nat.le_refl _) _
  refine ⟨below_cell hb (cell_new wm _ T 2 _ rfl), below_cell hb (cell_new wm _ T 3 _ rfl), below_cell hb (cell_new wm _ T 4 _ rfl), below_cell hb (cell_new wm _ T 5 _ rfl), below_cell hb (cell_new wm _ T 6 _ rfl), ?_⟩
  refine (hl.below hb1).below ?_
  exact ((Below.refl _ wm).alloc (Nat.le_refl _) _).alloc (by simp) _

theorem cost_le {r : Nat} (h : r ≤ 9) : cost r ≤ 488281 := by
  match r, h with
  | 0, _ | 1, _ | 2, _ | 3, _ | 4, _ | 5, _ | 6, _ | 7, _ | 8, _ | 9, _ => decide
theorem cost8 {r : Nat} (h : r ≤ 9) : 0 + cost r < maxLen := by
  have := cost_le h
  unfold maxLen
  omega

set_option maxRecDepth 100000 in
set_option maxHeartbeats 1000000 in
theorem plan_full (s wo : Int) (ak : Option Addr) (ks : List (Int × Int × Int)) (ck : Nat) (ad : Option Addr) (ds : List Int) (cd : Nat) (al : Option Addr) (lost : List (Int × Int)) (cl : Nat) (most : Int) (w : World) (hk : Recs3At w ak ks) (hd : IntsAt w ad ds) (lk : ks.length ≤ 1000) (ld : ds.length ≤ 1000) (hl : Recs2At w al lost) (ll : lost.length ≤ 1000) :
    Calls Try.prog 35 #[.agg #[.int .i64 s, .int .i64 wo, .slice ak ks.length ck, .slice ad ds.length cd], .slice al lost.length cl, .int .i64 most] w fun e w' =>
      SliceNumErr w.heap.size (planDays s wo ks ds lost most) (planCh s wo ks ds lost most) (planErr s wo ks ds lost most) e w' ∧ Below w.heap.size w w' := by
  by_cases he : lossErr s wo ks ds lost = 0
  · obtain ⟨hbk, hl6, _⟩ := lossErr_ok he
    obtain ⟨lk5, ld8, _⟩ := bookErr_ok hbk
    by_cases hm : 0 ≤ most ∧ most ≤ 8
    · have m0 : decide (0 ≤ most) = true := by simpa using hm.1
      have m1 : decide (most ≤ 8) = true := by simpa using hm.2
      have hmk := @run_makeMap Try.prog
      have He := Lib.hid he
      have Hm := Lib.hid hm
      clear hbk hm
      go_enter Try.func35, Try.ntmps35
      go_wp2_with (first
        | (go_at_call 71; refine (losses_any s wo ak ks ck ad ds cd al lost cl _ (hk.below (by (repeat (first | exact Below.refl _ _ | refine Below.alloc ?_ (by first | omega | (simp; done) | (simp; omega)) _ | refine Below.drew ?_ | refine Below.setCell ?_ (by first | omega | (simp; done) | (simp; omega)) _ | refine Below.trans ?_ (Below.mono (by assumption) (by first | omega | (simp; done) | (simp; omega))))))) (hd.below (by (repeat (first | exact Below.refl _ _ | refine Below.alloc ?_ (by first | omega | (simp; done) | (simp; omega)) _ | refine Below.drew ?_ | refine Below.setCell ?_ (by first | omega | (simp; done) | (simp; omega)) _ | refine Below.trans ?_ (Below.mono (by assumption) (by first | omega | (simp; done) | (simp; omega))))))) lk ld (hl.below (by (repeat (first | exact Below.refl _ _ | refine Below.alloc ?_ (by first | omega | (simp; done) | (simp; omega)) _ | refine Below.drew ?_ | refine Below.setCell ?_ (by first | omega | (simp; done) | (simp; omega)) _ | refine Below.trans ?_ (Below.mono (by assumption) (by first | omega | (simp; done) | (simp; omega))))))) ll).mono ?_; rintro e w1 ⟨rfl, hb1⟩; obtain ⟨hc1, hf1, hz1⟩ := bcell hb1; (try simp at hz1); (try (have hy0 : w.heap.size < w1.heap.size := by omega)); (try (have hy1 : w.heap.size + 1 < w1.heap.size := by omega)); (try (have hy2 : w.heap.size + 2 < w1.heap.size := by omega)))
        | (go_at_call 51; refine (within_any _ _ _ _).mono ?_; rintro e w1 ⟨rfl, rfl⟩))
      have hwB : Below w.heap.size w w1 := by (repeat (first | exact Below.refl _ _ | refine Below.alloc ?_ (by first | omega | (simp; done) | (simp; omega)) _ | refine Below.drew ?_ | refine Below.setCell ?_ (by first | omega | (simp; done) | (simp; omega)) _ | refine Below.trans ?_ (Below.mono (by assumption) (by first | omega | (simp; done) | (simp; omega)))))
      have hk2 := workAt_new w1 s wo ak ks.length ck ad ds.length cd al lost cl most 116 113 (hl.below hwB)
      have hm2 : ∀ G, MemoAt (((w1.alloc (.map #[] 0)).alloc (.cells #[.int .i64 s, .int .i64 wo, .slice ak ks.length ck, .slice ad ds.length cd, .slice al lost.length cl, .int .i64 most, .map (some w1.heap.size)] 116)).alloc (.cells #[.pointer (some ⟨w1.heap.size + 1, 0, none⟩)] 113)) w1.heap.size 0 G :=
        fun G => (MemoAt.made w1 G).below (((Below.refl _ _).alloc (Nat.le_refl _) _).alloc (by simp) _)
      have hb2 : Below w1.heap.size w1 (((w1.alloc (.map #[] 0)).alloc (.cells #[.int .i64 s, .int .i64 wo, .slice ak ks.length ck, .slice ad ds.length cd, .slice al lost.length cl, .int .i64 most, .map (some w1.heap.size)] 116)).alloc (.cells #[.pointer (some ⟨w1.heap.size + 1, 0, none⟩)] 113)) :=
        (((Below.refl _ _).alloc (Nat.le_refl _) _).alloc (by simp) _).alloc (by simp; omega) _
      have cW := cell_new ((w1.alloc (.map #[] 0)).alloc (.cells #[.int .i64 s, .int .i64 wo, .slice ak ks.length ck, .slice ad ds.length cd, .slice al lost.length cl, .int .i64 most, .map (some w1.heap.size)] 116)) #[.pointer (some ⟨w1.heap.size + 1, 0, none⟩)] 113 0 _ rfl
      have cWz : ((w1.alloc (.map #[] 0)).alloc (.cells #[.int .i64 s, .int .i64 wo, .slice ak ks.length ck, .slice ad ds.length cd, .slice al lost.length cl, .int .i64 most, .map (some w1.heap.size)] 116)).heap.size = w1.heap.size + 2 := by simp
      rw [cWz] at cW
      have cB2 : (w.alloc (.cells #[.int .i64 s, .int .i64 wo, .slice ak ks.length ck, .slice ad ds.length cd] 32)).cell? ⟨w.heap.size, 2, none⟩ = some (.slice ak ks.length ck) := cell_new w _ _ 2 _ rfl
      have cB3 : (w.alloc (.cells #[.int .i64 s, .int .i64 wo, .slice ak ks.length ck, .slice ad ds.length cd] 32)).cell? ⟨w.heap.size, 3, none⟩ = some (.slice ad ds.length cd) := cell_new w _ _ 3 _ rfl
      have bA : Below (w.heap.size + 1) (w.alloc (.cells #[.int .i64 s, .int .i64 wo, .slice ak ks.length ck, .slice ad ds.length cd] 32)) w1 := ((Below.refl _ _).alloc (by simp) _).trans (hb1.mono (by simp))
      have cB2' := (bA.cell (p := ⟨w.heap.size, 2, none⟩) (by simp)).trans cB2
      have cB3' := (bA.cell (p := ⟨w.heap.size, 3, none⟩) (by simp)).trans cB3
      have cD : w1.cell? ⟨w.heap.size + 1, 0, none⟩ = some (.slice none 0 0) := by
        rw [hb1.cell (by simp)]
        have := cell_new (w.alloc (.cells #[.int .i64 s, .int .i64 wo, .slice ak ks.length ck, .slice ad ds.length cd] 32)) #[.slice none 0 0] 23 0 _ rfl
        simpa using this
      have fD : w1.frozen? ⟨w.heap.size + 1, 0, none⟩ = false := by
        rw [hb1.frozen (by simp)]
        have := frozen_new (w.alloc (.cells #[.int .i64 s, .int .i64 wo, .slice ak ks.length ck, .slice ad ds.length cd] 32)) #[.slice none 0 0] 23 0
        simpa using this
      refine (fewest_any (w1.heap.size + 1) w1.heap.size ak ks.length ck ad ds.length cd al lost cl most lk5 (by omega) ll ds.length spot0 0 _ (by simp [spot0]) (by constructor <;> simp [spot0]) hk2 (hm2 _) (cost8 (by omega))).mono ?_
      rintro e w3 ⟨rfl, hk3, hm3⟩
      have wk3 := hk2.keep hk3
      have kW := hk3.cell cW
      have kB2 := hk3.cell (below_cell hb2 cB2')
      have kB3 := hk3.cell (below_cell hb2 cB3')
      have kD := hk3.cell (below_cell hb2 cD)
      have kF : w3.frozen? ⟨w.heap.size + 1, 0, none⟩ = false := by rw [hk3.frozen (below_cell hb2 cD), below_frozen hb2 cD]; exact fD
      have hk3z := hk3.size
      have hw3 : Below w.heap.size w w3 := (hwB.trans (hb2.mono hwB.size)).trans (hk3.toBelow hwB.size (by simp; have := hwB.size; omega))
      simp at hk3z
      clear hm2 hk2 cW cWz cB2 cB3 bA cB2' cB3' cD fD hmk hc1 hf1
      obtain ⟨L, hL⟩ : ∃ L, fewR (fun k => hadN lost k) most ks.length ds.length spot0 = L := ⟨_, rfl⟩
      have hLb := fewR_b (fun k => hadN lost k) most ks.length ds.length spot0
      rw [hL] at hLb ⊢
      have HL : Hid (planLeast ks.length ds.length lost most = L) := Lib.hid hL
      clear hL
      by_cases hst : 1048576 ≤ L
      · have e1 : planErr s wo ks ds lost most = 10 := by
          unfold planErr; rw [if_neg (by simp [He.out]), if_neg (by simp [Hm.out.1, Hm.out.2]), HL.out, if_pos hst]
        have E1 := Lib.hid e1
        clear e1
        have zD := World.cell?_setCell_same w3 ⟨w.heap.size + 1, 0, none⟩ (.slice none 0 0) kD
        go_wp2
        have e2 : planDays s wo ks ds lost most = [] := if_neg (by rw [E1.out]; omega)
        have e3 : planCh s wo ks ds lost most = 0 := if_neg (by rw [E1.out]; omega)
        refine bodyPost_ret (results_cell3 rfl rfl rfl rfl (load_list zD)) rfl ?_
        rw [e2, e3, E1.out]
        exact ⟨SliceNumErr.err, hw3.setCell (by simp) _⟩
      · have e1 : planErr s wo ks ds lost most = 0 := by
          unfold planErr; rw [if_neg (by simp [He.out]), if_neg (by simp [Hm.out.1, Hm.out.2]), HL.out, if_neg hst]
        have hst2 : L < 1048576 := by omega
        have e2 : planDays s wo ks ds lost most = planR (fun k => hadN lost k) most ks.length ds.length spot0 L := by unfold planDays; rw [if_pos e1, HL.out]
        have e3 : planCh s wo ks ds lost most = L := by unfold planCh; rw [if_pos e1, HL.out]
        have E1 := Lib.hid e1
        have E2 := Lib.hid e2
        have E3 := Lib.hid e3
        clear e1 e2 e3 hst
        have hb4 := (Below.refl w3.heap.size w3).alloc (Nat.le_refl _) (.cells #[.func (.func 76) #[] #[.pointer (some ⟨w.heap.size, 0, none⟩), .pointer (some ⟨w1.heap.size + 2, 0, none⟩), .pointer (some ⟨w.heap.size + 1, 0, none⟩), .pointer (some ⟨w3.heap.size, 0, none⟩)]] 122)
        have hwz := hwB.size
        have hx : ExtAt _ (w3.heap.size + 1) (w1.heap.size + 1) w1.heap.size w.heap.size (w1.heap.size + 2) w3.heap.size (w.heap.size + 1) ak ks.length ck ad ds.length cd :=
          ⟨below_cell hb4 kB2, below_cell hb4 kB3, below_cell hb4 kW, cell_new w3 _ _ 0 _ rfl, by omega, by omega, by omega, by omega, by omega, by omega, by omega, by omega, by omega, by omega, by simp⟩
        have kD4 := below_cell hb4 kD
        have kF4 := (below_frozen hb4 kD).trans kF
        have hcost : 0 + cost ds.length + cost (ds.length + 1) < maxLen := by
          have h1 := cost_le (r := ds.length) (by omega)
          have h2 := cost_le (r := ds.length + 1) (by omega)
          unfold maxLen
          omega
        have hext := (extend_any w (w3.heap.size + 1) (w1.heap.size + 1) w1.heap.size w.heap.size (w1.heap.size + 2) w3.heap.size (w.heap.size + 1) ak ks.length ck ad ds.length cd al lost cl most lk5 (by omega) ll (by omega) (by omega) (by omega) (by omega) hl
          ds.length spot0 L [] none 0 (0 + cost ds.length) _ (hw3.trans (hb4.mono (by omega))) (by simp [spot0]) (by constructor <;> simp [spot0]) hLb.1 (by omega) (by simp; omega) (wk3.below hb4) hx kD4 kF4 (OwnL.nil _ _ _ _) (hm3.below hb4) hcost)
        clear hx kD4 kF4
        go_wp2_with (go_at_call 76; refine hext.mono ?_; rintro e w6 ⟨rfl, hb6, hz6, a6, c6, hd6, ho6⟩)
        have zD := World.cell?_setCell_same w6 ⟨w.heap.size + 1, 0, none⟩ (.slice a6 (planR (fun k => hadN lost ↑k) most ks.length ds.length spot0 L).length c6) hd6
        refine bodyPost_ret (results_cell3 rfl rfl rfl rfl (load_list zD)) rfl ?_
        rw [E1.out, E2.out, E3.out]
        exact ⟨⟨a6, c6, rfl, (ho6.setCell (by simp; omega) _).base_le (by omega)⟩, ((hw3.trans (hb4.mono (by omega))).trans hb6).setCell (by simp) _⟩
    · have e1 : planErr s wo ks ds lost most = 2 := by
        unfold planErr; rw [if_neg (by simp [he]), if_pos hm]
      have e2 : planDays s wo ks ds lost most = [] := if_neg (by rw [e1]; omega)
      have e3 : planCh s wo ks ds lost most = 0 := if_neg (by rw [e1]; omega)
      rw [e1, e2, e3]
      have m0 : (decide (0 ≤ most) && decide (most ≤ 8)) = false := by simp; omega
      have He := Lib.hid he
      clear hbk hm e1 e2 e3 
      go_enter Try.func35, Try.ntmps35
      go_wp2_with (first
        | (go_at_call 71; refine (losses_any s wo ak ks ck ad ds cd al lost cl _ (hk.below (by (repeat (first | exact Below.refl _ _ | refine Below.alloc ?_ (by first | omega | (simp; done) | (simp; omega)) _ | refine Below.drew ?_ | refine Below.setCell ?_ (by first | omega | (simp; done) | (simp; omega)) _ | refine Below.trans ?_ (Below.mono (by assumption) (by first | omega | (simp; done) | (simp; omega))))))) (hd.below (by (repeat (first | exact Below.refl _ _ | refine Below.alloc ?_ (by first | omega | (simp; done) | (simp; omega)) _ | refine Below.drew ?_ | refine Below.setCell ?_ (by first | omega | (simp; done) | (simp; omega)) _ | refine Below.trans ?_ (Below.mono (by assumption) (by first | omega | (simp; done) | (simp; omega))))))) lk ld (hl.below (by (repeat (first | exact Below.refl _ _ | refine Below.alloc ?_ (by first | omega | (simp; done) | (simp; omega)) _ | refine Below.drew ?_ | refine Below.setCell ?_ (by first | omega | (simp; done) | (simp; omega)) _ | refine Below.trans ?_ (Below.mono (by assumption) (by first | omega | (simp; done) | (simp; omega))))))) ll).mono ?_; rintro e w1 ⟨rfl, hb1⟩; obtain ⟨hc1, hf1, hz1⟩ := bcell hb1; (try simp at hz1); (try (have hy0 : w.heap.size < w1.heap.size := by omega)); (try (have hy1 : w.heap.size + 1 < w1.heap.size := by omega)); (try (have hy2 : w.heap.size + 2 < w1.heap.size := by omega)))
        | (go_at_call 51; refine (within_any _ _ _ _).mono ?_; rw [m0]; rintro e w2 ⟨rfl, rfl⟩))
      have hwB : Below w.heap.size w w1 := by (repeat (first | exact Below.refl _ _ | refine Below.alloc ?_ (by first | omega | (simp; done) | (simp; omega)) _ | refine Below.drew ?_ | refine Below.setCell ?_ (by first | omega | (simp; done) | (simp; omega)) _ | refine Below.trans ?_ (Below.mono (by assumption) (by first | omega | (simp; done) | (simp; omega)))))
      have cD : w1.cell? ⟨w.heap.size + 1, 0, none⟩ = some (.slice none 0 0) := by
        rw [hb1.cell (by simp)]
        have := cell_new (w.alloc (.cells #[.int .i64 s, .int .i64 wo, .slice ak ks.length ck, .slice ad ds.length cd] 32)) #[.slice none 0 0] 23 0 _ rfl
        simpa using this
      have zD := World.cell?_setCell_same w1 ⟨w.heap.size + 1, 0, none⟩ (.slice none 0 0) cD
      refine bodyPost_ret (results_cell3 rfl rfl rfl rfl (load_list zD)) rfl ?_
      exact ⟨SliceNumErr.err, hwB.setCell (by simp) _⟩
  · have e1 : planErr s wo ks ds lost most = lossErr s wo ks ds lost := by
      unfold planErr; rw [if_pos he]
    have e2 : planDays s wo ks ds lost most = [] := if_neg (by rw [e1]; exact he)
    have e3 : planCh s wo ks ds lost most = 0 := if_neg (by rw [e1]; exact he)
    rw [e1, e2, e3]
    have hne : (lossErr s wo ks ds lost != 0) = true := by simpa using he
    clear he e1 e2 e3
    go_enter Try.func35, Try.ntmps35
    go_wp2_with (go_at_call 71; refine (losses_any s wo ak ks ck ad ds cd al lost cl _ (hk.below (by (repeat (first | exact Below.refl _ _ | refine Below.alloc ?_ (by first | omega | (simp; done) | (simp; omega)) _ | refine Below.drew ?_ | refine Below.setCell ?_ (by first | omega | (simp; done) | (simp; omega)) _ | refine Below.trans ?_ (Below.mono (by assumption) (by first | omega | (simp; done) | (simp; omega))))))) (hd.below (by (repeat (first | exact Below.refl _ _ | refine Below.alloc ?_ (by first | omega | (simp; done) | (simp; omega)) _ | refine Below.drew ?_ | refine Below.setCell ?_ (by first | omega | (simp; done) | (simp; omega)) _ | refine Below.trans ?_ (Below.mono (by assumption) (by first | omega | (simp; done) | (simp; omega))))))) lk ld (hl.below (by (repeat (first | exact Below.refl _ _ | refine Below.alloc ?_ (by first | omega | (simp; done) | (simp; omega)) _ | refine Below.drew ?_ | refine Below.setCell ?_ (by first | omega | (simp; done) | (simp; omega)) _ | refine Below.trans ?_ (Below.mono (by assumption) (by first | omega | (simp; done) | (simp; omega))))))) ll).mono ?_; rintro e w1 ⟨rfl, hb1⟩; obtain ⟨hc1, hf1, hz1⟩ := bcell hb1; (try simp at hz1); (try (have hy0 : w.heap.size < w1.heap.size := by omega)); (try (have hy1 : w.heap.size + 1 < w1.heap.size := by omega)); (try (have hy2 : w.heap.size + 2 < w1.heap.size := by omega)))
    have hwB : Below w.heap.size w w1 := by (repeat (first | exact Below.refl _ _ | refine Below.alloc ?_ (by first | omega | (simp; done) | (simp; omega)) _ | refine Below.drew ?_ | refine Below.setCell ?_ (by first | omega | (simp; done) | (simp; omega)) _ | refine Below.trans ?_ (Below.mono (by assumption) (by first | omega | (simp; done) | (simp; omega)))))
    have cD : w1.cell? ⟨w.heap.size + 1, 0, none⟩ = some (.slice none 0 0) := by
      rw [hb1.cell (by simp)]
      have := cell_new (w.alloc (.cells #[.int .i64 s, .int .i64 wo, .slice ak ks.length ck, .slice ad ds.length cd] 32)) #[.slice none 0 0] 23 0 _ rfl
      simpa using this
    have zD := World.cell?_setCell_same w1 ⟨w.heap.size + 1, 0, none⟩ (.slice none 0 0) cD
    refine bodyPost_ret (results_cell3 rfl rfl rfl rfl (load_list zD)) rfl ?_
    exact ⟨SliceNumErr.err, hwB.setCell (by simp) _⟩
end Go.Proofs.Ytmplgcefhpobgaa
