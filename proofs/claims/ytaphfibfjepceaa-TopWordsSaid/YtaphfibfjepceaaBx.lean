/- law helpers: Picked, Owed -/
import Derived.Test.YtaphfibfjepceaaBw
import Derived.Deep.Cut
namespace Go.Proofs.Ytaphfibfjepceaa
set_option linter.unusedVariables false
set_option linter.unusedSimpArgs false
set_option linter.unnecessarySimpa false
open Go.RowKit Go.Flow Go.Shelf

section
variable (st rate keeps : Int) (ds : List Dis) (ad : Option Addr) (cd : Nat) (aw : Option Addr) (ws : List Int) (cw : Nat) (w : World) (hd : DisAt w ad ds) (h0 : accErr ⟨st, rate, keeps, ds⟩ = 0) (hw : U16At w aw ws) (hu : U16s ws) (hwl : ws.length ≤ 9223372036854775807)
include hd h0 hw hu hwl
set_option maxRecDepth 100000 in
set_option maxHeartbeats 4000000 in
theorem picked_own : Calls Try.prog 14 #[.agg #[.int .i64 st, .int .i64 rate, .int .i64 keeps, .slice ad ds.length cd], .slice aw ws.length cw] w fun e w' => (∃ a c, e = .returned (.slice a ds.length c) ∧ OwnL 3 1 w.heap.size w' a c ds.length ((pkL ds ws).map (Value.int .i64))) ∧ Below w.heap.size w w' := by
  have G := good_of h0
  simp only at G
  have hn6 := G.n
  have HU := Lib.hid hu
  have HG := Lib.hid G
  obtain ⟨W1, hW1⟩ : ∃ z : World, z = w.alloc (.cells #[.int .i64 st, .int .i64 rate, .int .i64 keeps, .slice ad ds.length cd] 29) := ⟨_, rfl⟩
  have C1 : Cells W1 w.heap.size #[.int .i64 st, .int .i64 rate, .int .i64 keeps, .slice ad ds.length cd] 29 := by rw [hW1]; exact Cells.new _ _ _
  have t1 : Below w.heap.size w W1 := by rw [hW1]; exact (Below.refl _ _).alloc (Nat.le_refl _) _
  clear h0 G hu
  go_enter Try.func14, Try.ntmps14
  go_wp2
  rw [← hW1]
  clear hW1
  go_loopw [5, 6, 7, 8, 9] (fun v u _ _ _ X => ∃ (k : Nat) (a' : Option Addr) (c' : Nat), k ≤ ds.length ∧ u = .int .i64 k ∧ v = .slice a' k c' ∧ OwnL 3 1 W1.heap.size X a' c' k (((pkL ds ws).take k).map (Value.int .i64)) ∧ Below W1.heap.size W1 X) (fun _ u _ _ _ _ => ds.length - (intOf u).toNat)
  case atStart => exact ⟨0, none, 0, Nat.zero_le _, rfl, rfl, OwnL.nil _ _ _ _, Below.refl _ _⟩
  case round =>
    obtain ⟨k, a', c', hk, rfl, rfl, own, hbX⟩ := hrel
    rename World => X
    have zX := hbX.size
    have tX := t1.trans (hbX.mono t1.size)
    have q3 := (C1.below hbX).cell 3
    have lq := (C1.below hbX).lt
    simp at q3
    by_cases hlt : k < ds.length
    · have hkI : (k : Int) < (ds.length : Int) := by omega
      obtain ⟨bd, od, al, cl, rfl, lbd, _, e1, e2, _, _⟩ := (hd.below tX) k hlt
      have hGw := HG.out.w _ (List.getElem_mem hlt)
      have hwX := hw.below tX
      obtain ⟨lo, hlo⟩ : ∃ z, ds[k].lo = z := ⟨_, rfl⟩
      obtain ⟨hi, hhi⟩ : ∃ z, ds[k].hi = z := ⟨_, rfl⟩
      have hpk : (pkL ds ws).take (k + 1) = (pkL ds ws).take k ++ [pickedF lo hi (wordN ws k)] := by
        rw [List.take_succ_eq_append_getElem (by rw [pkL_len]; exact hlt)]
        have := pkL_at ds ws hlt
        rw [List.getD_eq_getElem?_getD, List.getElem?_eq_getElem (by rw [pkL_len]; exact hlt), Option.getD_some] at this
        rw [this, hlo, hhi]
      rw [hlo] at e1 hGw
      rw [hhi] at e2 hGw
      have hv := wordN_le HU.out k
      obtain ⟨v, hve⟩ : ∃ v, wordN ws k = v := ⟨_, rfl⟩
      rw [hve] at hpk hv
      have Hve := Lib.hid hve
      have Hpk := Lib.hid hpk
      have hwd := fun W (b : Below X.heap.size X W) => word_any aw ws cw k W (hwX.below b) HU.out hwl (by omega)
      rw [hve] at hwd
      clear hve hpk hlo hhi
      have S0 : ∀ W : World, Below X.heap.size X W → W.cell? ⟨w.heap.size, 3, none⟩ = some (.slice (some ⟨bd, od, none⟩) ds.length cd) ∧ W.cell? ⟨bd, od + k * 4 + 1, none⟩ = some (.int .i64 lo) ∧ W.cell? ⟨bd, od + k * 4 + 1 + 1, none⟩ = some (.int .i64 hi) := fun W b => ⟨below_cell b q3, below_cell b e1, below_cell b e2⟩
      go_wp2
      go_region_held3 (fun w' => w'.cell? ⟨w.heap.size, 3, none⟩ = some (.slice (some ⟨bd, od, none⟩) ds.length cd) ∧ w'.cell? ⟨bd, od + k * 4 + 1, none⟩ = some (.int .i64 lo) ∧ w'.cell? ⟨bd, od + k * 4 + 1 + 1, none⟩ = some (.int .i64 hi))
        (first
          | exact S0 _ (Below.refl _ _)
          | exact S0 _ ((Below.refl _ _).drew)
          | exact S0 _ (((Below.refl _ _).drew).alloc (by first | exact Nat.le_refl _ | (simp; done)) _)
          | exact S0 _ (by (repeat (first | exact Below.refl _ _ | refine Below.alloc ?_ (by first | omega | (simp; done) | (simp; omega)) _ | refine Below.drew ?_ | refine Below.setCell ?_ (by first | omega | (simp; done) | (simp; omega)) _ | refine Below.trans ?_ (Below.mono (by assumption) (by first | omega | (simp; done) | (simp; omega)))))))
        (first
          | (go_at_call 29; refine (hwd _ (by first | exact Below.refl _ _ | exact (Below.refl _ _).drew | exact ((Below.refl _ _).drew).alloc (by first | exact Nat.le_refl _ | (simp; done)) _ | (repeat (first | exact Below.refl _ _ | refine Below.alloc ?_ (by first | omega | (simp; done) | (simp; omega)) _ | refine Below.drew ?_ | refine Below.setCell ?_ (by first | omega | (simp; done) | (simp; omega)) _ | refine Below.trans ?_ (Below.mono (by assumption) (by first | omega | (simp; done) | (simp; omega))))))).mono ?_; rintro e _ ⟨rfl, rfl⟩)
          | fail)
      all_goals (
        obtain ⟨X2, hX2⟩ : ∃ z : World, z = (X.alloc (.cells #[.int .i64 lo, .int .i64 hi] 46)).drew := ⟨_, rfl⟩
        have bA : Below X.heap.size X (X.alloc (.cells #[.int .i64 lo, .int .i64 hi] 46)) := (Below.refl _ _).alloc (Nat.le_refl _) _
        have C2 : Cells X2 X.heap.size #[.int .i64 lo, .int .i64 hi] 46 := by rw [hX2]; exact (Cells.new X _ _).below ((Below.refl _ _).drew)
        have bX2 : Below X.heap.size X X2 := by rw [hX2]; exact bA.drew
        rw [← hX2]
        clear hX2 S0 hwd
        have y0 := C2.cell 0
        have y1 := C2.cell 1
        simp at y0 y1
        have ly := C2.lt
        have own2 := own.kept bX2
        have b2 := hbX.trans (bX2.mono zX)
        clear C2 bA bX2 own e1 e2 lbd q3 lq
        have w1 : IntKind.i64.wrap (hi - lo) = hi - lo := IntWalk.i64_in _ (by omega)
        have w2 : IntKind.i64.wrap (hi - lo + 1) = hi - lo + 1 := IntWalk.i64_in _ (by omega)
        obtain ⟨M, hM⟩ : ∃ M : Nat, hi - lo + 1 = (M : Int) := ⟨(hi - lo + 1).toNat, by omega⟩
        have hMt : (hi - lo + 1).toNat = M := by omega
        have hM0 : 0 < M := by omega
        rw [hM] at w2
        have hMn : ¬ ((M : Int) = 0) := by omega
        have p0 : Int.tdiv (v : Int) 4 = ((v / 4 : Nat) : Int) := rfl
        have p1 : IntKind.i64.wrap ((v / 4 : Nat) : Int) = ((v / 4 : Nat) : Int) := IntWalk.i64_in _ (by omega)
        have p2 : Int.tmod ((v / 4 : Nat) : Int) (M : Int) = ((v / 4 % M : Nat) : Int) := rfl
        have p3 : Int.tmod (v : Int) 4 = ((v % 4 : Nat) : Int) := rfl
        have hPk : Hid ((pkL ds ws).take (k + 1) = (pkL ds ws).take k ++ [if v % 4 = 0 then lo else if v % 4 = 1 then hi else lo + ((v / 4 % M : Nat) : Int)]) := Lib.hid (by rw [Hpk.out, pickedF, hMt])
        have hlt3 := Nat.mod_lt (v / 4) hM0
        obtain ⟨r, hr⟩ : ∃ r, v % 4 = r := ⟨_, rfl⟩
        obtain ⟨q, hq⟩ : ∃ q, v / 4 = q := ⟨_, rfl⟩
        rw [hr] at p3 hPk
        rw [hq] at p0 p1 p2 hPk hlt3
        obtain ⟨z, hz⟩ : ∃ z, q % M = z := ⟨_, rfl⟩
        rw [hz] at p2 hPk hlt3
        have w3 : IntKind.i64.wrap (lo + (z : Int)) = lo + (z : Int) := IntWalk.i64_in _ (by omega)
        clear hr hq hz hMt hlt3 Hpk
        have key : ∀ y : Int, Hid ((pkL ds ws).take (k + 1) = (pkL ds ws).take k ++ [y]) → ∀ (Y : World) (ac : Option Addr) (cc : Nat), OwnL 3 1 W1.heap.size Y ac cc (k + 1) (((pkL ds ws).take k).map (Value.int .i64) ++ (#[.int .i64 y] : Array Value).toList) → OwnL 3 1 W1.heap.size Y ac cc (k + 1) (((pkL ds ws).take (k + 1)).map (Value.int .i64)) := fun y h Y ac cc o => by rw [h.out, List.map_append]; exact o
        by_cases h0 : r = 0
        · subst h0
          replace p3 : Int.tmod (v : Int) 4 = 0 := p3
          replace hPk : Hid ((pkL ds ws).take (k + 1) = (pkL ds ws).take k ++ [lo]) := Lib.hid (by rw [hPk.out, if_pos rfl])
          go_wp2
          (refine wp_region_ext 12 (by kernel_rfl) (by kernel_rfl) ?_; simp only [List.take_succ_cons, List.take_zero, List.drop_succ_cons, List.drop_zero]; (repeat (go_big_quiet_step ((fail)))); refine wpQuiet_nil ?_; rintro _ ⟨ex, rfl⟩; have hex := ex.below; have hexz := ex.size; (try simp at hexz); (try (have hy0 : w.heap.size < ex.to.heap.size := by omega)); (try (have hy1 : w.heap.size + 1 < ex.to.heap.size := by omega)); (try (have hy2 : w.heap.size + 2 < ex.to.heap.size := by omega)))
          have own3 := own2.kept hex
          have b3 := b2.trans (hex.mono b2.size)
          have y0' := below_cell hex y0
          have ly' := cell_ltK y0'
          go_wp2_with (at_builtin; refine wpList_app_lit_at elInt rfl _ _ rfl W1.heap.size a' k c' _ rfl own3 1 1 rfl rfl (fun u hu => by simp at hu; subst hu; rfl) (by unfold maxLen; omega) (by omega) b3.size ?_; intro a9 c9 Y3 o9 b9 _)
          have b19 := b3.trans b9
          go_wp2
          go_roundw
          case rel => exact ⟨k + 1, a9, c9, by omega, by go_num, rfl, key _ hPk _ _ _ o9, b19⟩
          case measure => simp [intOf]; omega
        · by_cases h1 : r = 1
          · subst h1
            replace p3 : Int.tmod (v : Int) 4 = 1 := p3
            replace hPk : Hid ((pkL ds ws).take (k + 1) = (pkL ds ws).take k ++ [hi]) := Lib.hid (by rw [hPk.out, if_neg (by omega), if_pos rfl])
            go_wp2
            (refine wp_region_ext 12 (by kernel_rfl) (by kernel_rfl) ?_; simp only [List.take_succ_cons, List.take_zero, List.drop_succ_cons, List.drop_zero]; (repeat (go_big_quiet_step ((fail)))); refine wpQuiet_nil ?_; rintro _ ⟨ex, rfl⟩; have hex := ex.below; have hexz := ex.size; (try simp at hexz); (try (have hy0 : w.heap.size < ex.to.heap.size := by omega)); (try (have hy1 : w.heap.size + 1 < ex.to.heap.size := by omega)); (try (have hy2 : w.heap.size + 2 < ex.to.heap.size := by omega)))
            have own3 := own2.kept hex
            have b3 := b2.trans (hex.mono b2.size)
            have y1' := below_cell hex y1
            have ly' := cell_ltK y1'
            go_wp2_with (at_builtin; refine wpList_app_lit_at elInt rfl _ _ rfl W1.heap.size a' k c' _ rfl own3 1 1 rfl rfl (fun u hu => by simp at hu; subst hu; rfl) (by unfold maxLen; omega) (by omega) b3.size ?_; intro a9 c9 Y3 o9 b9 _)
            have b19 := b3.trans b9
            go_wp2
            go_roundw
            case rel => exact ⟨k + 1, a9, c9, by omega, by go_num, rfl, key _ hPk _ _ _ o9, b19⟩
            case measure => simp [intOf]; omega
          · have f0 : ((r : Int) == 0) = false := by rw [beq_eq_false_iff_ne]; omega
            have f1 : ((r : Int) == 1) = false := by rw [beq_eq_false_iff_ne]; omega
            replace hPk : Hid ((pkL ds ws).take (k + 1) = (pkL ds ws).take k ++ [lo + (z : Int)]) := Lib.hid (by rw [hPk.out, if_neg h0, if_neg h1])
            go_wp2
            (refine wp_region_ext 12 (by kernel_rfl) (by kernel_rfl) ?_; simp only [List.take_succ_cons, List.take_zero, List.drop_succ_cons, List.drop_zero]; (repeat (go_big_quiet_step ((fail)))); refine wpQuiet_nil ?_; rintro _ ⟨ex, rfl⟩; have hex := ex.below; have hexz := ex.size; (try simp at hexz); (try (have hy0 : w.heap.size < ex.to.heap.size := by omega)); (try (have hy1 : w.heap.size + 1 < ex.to.heap.size := by omega)); (try (have hy2 : w.heap.size + 2 < ex.to.heap.size := by omega)))
            have own3 := own2.kept hex
            have b3 := b2.trans (hex.mono b2.size)
            go_wp2_with (at_builtin; refine wpList_app_lit_at elInt rfl _ _ rfl W1.heap.size a' k c' _ rfl own3 1 1 rfl rfl (fun u hu => by simp at hu; subst hu; rfl) (by unfold maxLen; omega) (by omega) b3.size ?_; intro a9 c9 Y3 o9 b9 _)
            have b19 := b3.trans b9
            go_wp2
            go_roundw
            case rel => exact ⟨k + 1, a9, c9, by omega, by go_num, rfl, key _ hPk _ _ _ o9, b19⟩
            case measure => simp [intOf]; omega)
    · obtain rfl : k = ds.length := by omega
      have hfull : (pkL ds ws).take ds.length = pkL ds ws := by rw [← pkL_len ds ws, List.take_length]
      rw [hfull] at own
      have hI := own.base_le t1.size
      clear hfull own
      go_wp2
      go_ret
      first | exact ⟨⟨a', c', rfl, hI⟩, tX⟩ | exact ⟨⟨a', ⟨c', rfl⟩, hI⟩, tX⟩ | exact ⟨⟨a', ⟨c', rfl, hI⟩⟩, tX⟩
end
end Go.Proofs.Ytaphfibfjepceaa
