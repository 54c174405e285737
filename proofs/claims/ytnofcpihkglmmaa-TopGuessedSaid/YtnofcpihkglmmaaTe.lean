/- TopGuessed: candidates -/
import Derived.Test.YtnofcpihkglmmaaTd
namespace Go.Proofs.Ytnofcpihkglmmaa
set_option linter.unusedVariables false
set_option linter.unusedSimpArgs false
set_option linter.unnecessarySimpa false
open Go.RowKit Go.Flow
def CandOk (s : Int) (m : Nat) (l : List Int) : Prop := (∀ x ∈ l, 0 ≤ x ∧ x < s) ∧ (m : Int) ∈ l ∧ l.length ≤ 1000000000000
set_option maxRecDepth 100000 in
set_option maxHeartbeats 16000000 in
theorem cand_any (ac : Option Addr) (ss : List ByteArray) (cc : Nat) (s wo : Int) (ks ds : Value) (m : Nat) (aw : Option Addr) (ws : List Int) (cw K : Nat) (w : World) (hx : StrsAt w ac ss) (ok : CodeOk ss) (h3 : 3 ≤ ss.length) (s0 : 13 ≤ s) (s1 : s ≤ 41) (hm : (m : Int) < s) (hw : W16At w aw ws) (hu : ∀ n ∈ ws, 0 ≤ n ∧ n ≤ 65535) (mw : ws.length ≤ 9223372036854775807) (hK : K ≤ 2) :
    Calls Try.prog 11 #[.agg #[.slice ac ss.length cc], .agg #[.int .i64 s, .int .i64 wo, ks, ds], .int .i64 (m : Int), .slice aw ws.length cw, .int .i64 (K : Int)] w fun e w' => (∃ ao co l, e = .returned (.tuple #[.slice ao l.length co, .bool true]) ∧ IntsAt w' ao l ∧ CandOk s m l) ∧ Below w.heap.size w w' := by
  have h6 := ok.le
  have hcb := code_bytes ok
  have hsl := sent_low_len ok m
  have HC := Lib.hid ok
  have HU := Lib.hid hu
  have HCB := Lib.hid hcb
  have HSL := Lib.hid hsl
  clear ok hu hcb hsl
  go_enter Try.func11, Try.ntmps11
  go_wp2_with fail
  go_at_call 24
  refine (places_any ac ss.length cc s wo ks ds _ h3 h6 s0 s1).mono ?_
  rintro e w1 ⟨⟨P, rfl, hP4, hPs⟩, b1⟩
  have t1 : Below w.heap.size w w1 := by (repeat (first | exact Below.refl _ _ | refine Below.alloc ?_ (by first | omega | (simp; done) | (simp; omega)) _ | refine Below.drew ?_ | refine Below.setCell ?_ (by first | omega | (simp; done) | (simp; omega)) _ | refine Below.trans ?_ (Below.mono (by assumption) (by first | omega | (simp; done) | (simp; omega)))))
  replace hx := hx.below t1
  replace hw := hw.below t1
  have CB := ((Cells.new w #[.slice ac ss.length cc] 24).alloc (.cells #[.int .i64 s, .int .i64 wo, ks, ds] 28)).below b1
  have CA := (Cells.new' (w.alloc (.cells #[.slice ac ss.length cc] 24)) #[.int .i64 s, .int .i64 wo, ks, ds] 28 (w.heap.size + 1) (by simp)).below b1
  have q0 := CB.cell 0
  have p0 := CA.cell 0
  have p1 := CA.cell 1
  have p2 := CA.cell 2
  have p3 := CA.cell 3
  simp at q0 p0 p1 p2 p3
  have lq := CB.lt
  have lp := CA.lt
  clear CB CA
  have hml : m < ss.length ^ P := by omega
  have sp := fun W => spelt_any ac ss.length cc m P W h3 h6 (by omega) hP4
  have sg := fun (W : World) (b : Below w1.heap.size w1 W) (g : Nat) => signs_low ac ss cc g m P W (hx.below b) h3 hP4 HC
  have hST := HSL.out P
  obtain ⟨ST, hSTe⟩ : ∃ ST, sentF (ss.map fun x => x.data.toList) [] (lowF ss.length m P) = ST := ⟨_, rfl⟩
  rw [hSTe] at hST sg
  have HST := Lib.hid hSTe
  clear hSTe
  have mr := fun (W : World) (b : Below w1.heap.size w1 W) (Z : ByteArray) (hZ : Z.data.toList = ST) => f2Misread Z aw ws cw K W (by
    have h : Z.data.toList.length ≤ 20 := by rw [hZ]; omega
    rw [Array.length_toList] at h
    show Z.data.size ≤ 100
    omega) (hw.below b) HU.out mw (by omega)
  go_upto_region 2 with fail
  (refine wp_region_seq 14 [] [] 77 [true, true, true, true, false, false, true, true, false, false, false, false, false, false] [SpV ss.length m P, StrP (fun z => z = ST), MisP (fun z => ∃ k, k ≤ K ∧ Der ST z k), MisP (fun z => ∃ k, k ≤ K ∧ Der ST z k), StrP (fun z => ∃ k, k ≤ K ∧ Der ST z k), AnyV, StrP (fun z => ∃ k, k ≤ K ∧ Der ST z k), AnyV] (by kernel_rfl) (by kernel_rfl) rfl (mono_cons (fun v w w' h hb => h.kept hb) (mono_cons (fun v w w' h hb => h.kept hb) (mono_cons (fun v w w' h hb => h.kept hb) (mono_cons (fun v w w' h hb => h.kept hb) (mono_cons (fun v w w' h hb => h.kept hb) (mono_cons (fun v w w' h hb => h.kept hb) (mono_cons (fun v w w' h hb => h.kept hb) (mono_cons (fun v w w' h hb => h.kept hb) mono_nil)))))))) ?_; simp only [pickOps, List.filterMap_cons, List.filterMap_nil, List.getElem?_toArray, List.getElem?_cons_succ, List.getElem?_cons_zero]; (repeat (refine wpFl_step _ rfl (fun w => (by go_simp; rfl)) ?_)); refine wpFl_nil ?_; simp only [maskOps, dummy, Act.put, List.setIfInBounds_toArray, List.set_cons_zero, List.set_cons_succ, List.take_succ_cons, List.take_zero, List.drop_succ_cons, List.drop_zero]; (repeat (refine wpQB_step (fun K hK => ?_); go_simp; first | (refine hK _ ?_; clear hK K) | (apply Exists.intro; refine ⟨fun ex => ?_, hK _ ?_⟩; (fail); clear hK K))); refine wpQB_nil ?_; simp only [relObl2_t, relObl2_f, relObl2_n, under_c, under_n, relEnd_t, relEnd_f, relEnd_n, and_true, List.nil_append, List.cons_append])
  refine ⟨⟨?_, ?_, ?_, ?_, ?_, ?_, ?_, ?_⟩, ?_⟩
  · intro e
    refine ⟨?_⟩
    go_simp
    refine (sp _).mono ?_
    rintro _ _ ⟨⟨g, rfl, hA⟩, hb⟩
    exact ⟨hb, g, rfl, hA⟩
  · intro e v1 h1
    obtain ⟨g, rfl, hA⟩ := h1 (by kernel_rfl)
    refine ⟨?_⟩
    go_simp
    refine (sg _ e.below g hA).mono ?_
    rintro _ _ ⟨Z, ⟨rfl, hZ⟩, hb⟩
    exact ⟨hb, Z, rfl, hZ⟩
  · intro e v1 _ v2 h2
    obtain ⟨Z, rfl, hZ⟩ := h2 (by kernel_rfl)
    refine ⟨?_⟩
    go_simp
    refine (mr _ e.below Z hZ).mono ?_
    rintro _ _ ⟨R, a, k, c, ⟨rfl, hD⟩, hb⟩
    rw [hZ] at hD
    exact ⟨hb, R, a, k, c, rfl, hD⟩
  · intro e v1 _ v2 _ v3 h3
    refine ⟨?_⟩
    go_simp
    exact ⟨Below.refl _ _, h3 (by kernel_rfl)⟩
  · intro e v1 _ v2 _ v3 _ v4 h4
    obtain ⟨R, a, k, c, rfl, hD⟩ := h4 (by kernel_rfl)
    refine ⟨?_⟩
    go_simp
    exact ⟨Below.refl _ _, R, rfl, hD⟩
  · intro e v1 _ v2 _ v3 _ v4 h4 v5 _
    obtain ⟨R, a, k, c, rfl, hD⟩ := h4 (by kernel_rfl)
    refine ⟨?_⟩
    go_simp
    exact ⟨Below.refl _ _, trivial⟩
  · intro e v1 _ v2 _ v3 _ v4 _ v5 h5 v6 _
    refine ⟨?_⟩
    go_simp
    exact ⟨Below.refl _ _, h5 (by kernel_rfl)⟩
  · intro e v1 _ v2 _ v3 _ v4 _ v5 _ v6 h6 v7 _
    refine ⟨?_⟩
    go_simp
    exact ⟨Below.refl _ _, trivial⟩
  intro ex
  rintro v1 - v2 - v3 - v4 - v5 - v6 - v7 hv v8 -
  refine ⟨?_⟩
  simp only [Act.put, List.setIfInBounds_toArray, List.set_cons_zero, List.set_cons_succ]
  obtain ⟨R, rfl, ke, hke, hder⟩ := hv
  clear sp sg mr
  have b2 := ex.below
  obtain ⟨w2, hwq⟩ : ∃ x : World, x = ex.to := ⟨_, rfl⟩
  rw [← hwq] at b2 ⊢
  clear hwq
  have j2 : Below w1.heap.size w1 w2 := by (repeat (first | exact Below.refl _ _ | refine Below.alloc ?_ (by first | omega | (simp; done) | (simp; omega)) _ | refine Below.drew ?_ | refine Below.setCell ?_ (by first | omega | (simp; done) | (simp; omega)) _ | refine Below.trans ?_ (Below.mono (by assumption) (by first | omega | (simp; done) | (simp; omega)))))
  have t2 : Below w.heap.size w w2 := t1.trans (j2.mono t1.size)
  replace hx := hx.below j2
  replace hw := hw.below j2
  replace q0 := below_cell j2 q0
  replace p0 := below_cell j2 p0
  replace p1 := below_cell j2 p1
  replace p2 := below_cell j2 p2
  replace p3 := below_cell j2 p3
  replace lq := Nat.lt_of_lt_of_le lq j2.size
  replace lp := Nat.lt_of_lt_of_le lp j2.size
  have hRl : R.size ≤ 22 := by
    have h := der_len hder
    rw [Array.length_toList] at h
    show R.data.size ≤ 22
    omega
  have hRI : ¬ (40 : Int) < (R.size : Int) := by omega
  have hRs : SignsOk R := ⟨by omega, der_bytes hder (by rw [← HST.out]; exact sent_bytes _ HCB.out.2 _ [])⟩
  have HRs := Lib.hid hRs
  have HD := Lib.hid hder
  obtain ⟨bc, oc, hac, _⟩ := hx 0 (by omega)
  subst hac
  clear hRs hder
  go_wp2_with fail
  go_at_call 28
  refine (f2Code ⟨bc, oc, none⟩ ss cc _ hx (by omega)).mono ?_
  rintro e w3 ⟨aC, cC, ⟨rfl, hxC, hcC⟩, b3⟩
  have j3 : Below w2.heap.size w2 w3 := by (repeat (first | exact Below.refl _ _ | refine Below.alloc ?_ (by first | omega | (simp; done) | (simp; omega)) _ | refine Below.drew ?_ | refine Below.setCell ?_ (by first | omega | (simp; done) | (simp; omega)) _ | refine Below.trans ?_ (Below.mono (by assumption) (by first | omega | (simp; done) | (simp; omega)))))
  have t3 : Below w.heap.size w w3 := t2.trans (j3.mono t2.size)
  replace hx := hx.below j3
  replace hw := hw.below j3
  replace q0 := below_cell j3 q0
  replace p0 := below_cell j3 p0
  replace p1 := below_cell j3 p1
  replace p2 := below_cell j3 p2
  replace p3 := below_cell j3 p3
  replace lq := Nat.lt_of_lt_of_le lq j3.size
  replace lp := Nat.lt_of_lt_of_le lp j3.size
  go_wp2_with fail
  go_at_call 21
  refine (Texts_any aC ss cC R (K : Int) P R.data.toList _ rfl rfl HRs.out (by omega) (by omega) HC.out _ hxC hcC).mono ?_
  rintro e w4 ⟨aT, cT, vs, rfl, oT, rT, b4⟩
  have j4 : Below w3.heap.size w3 w4 := by (repeat (first | exact Below.refl _ _ | refine Below.alloc ?_ (by first | omega | (simp; done) | (simp; omega)) _ | refine Below.drew ?_ | refine Below.setCell ?_ (by first | omega | (simp; done) | (simp; omega)) _ | refine Below.trans ?_ (Below.mono (by assumption) (by first | omega | (simp; done) | (simp; omega)))))
  have t4 : Below w.heap.size w w4 := t3.trans (j4.mono t3.size)
  replace hx := hx.below j4
  replace hw := hw.below j4
  replace q0 := below_cell j4 q0
  replace p0 := below_cell j4 p0
  replace p1 := below_cell j4 p1
  replace p2 := below_cell j4 p2
  replace p3 := below_cell j4 p3
  replace lq := Nat.lt_of_lt_of_le lq j4.size
  replace lp := Nat.lt_of_lt_of_le lp j4.size
  replace hxC := hxC.below j4
  obtain ⟨TX, hTX⟩ : ∃ TX, TextsF R.data.toList (K : Int) (ss.map fun x => x.data.toList) (P + 1) = TX := ⟨_, rfl⟩
  rw [hTX] at rT
  have hmem : lowF ss.length m P ∈ TX := by
    rw [← hTX]
    refine texts_mem _ _ _ ke (by omega) _ (fun x hxm => ?_) (by rw [HST.out]; exact HD.out) (P + 1) (by rw [lowF_len]; omega)
    rw [List.length_map]
    exact lowF_b ss.length m (by omega) P x hxm
  have hrng : ∀ t ∈ TX, ∀ x ∈ t, 0 ≤ x ∧ x < (ss.length : Int) := fun t ht x hxm => by
    have := texts_range R.data.toList (K : Int) (ss.map fun x => x.data.toList) (P + 1) t (by rw [hTX]; exact ht) x hxm
    rwa [List.length_map] at this
  have hlens : ∀ t ∈ TX, t.length ≤ 5 := fun t ht => by
    have := texts_lens R.data.toList (K : Int) (ss.map fun x => x.data.toList) (P + 1) t (by rw [hTX]; exact ht)
    omega
  have hvl : vs.length = TX.length := rT.1
  have hcell : ∀ k (h : k < TX.length), ∃ g ax cx, aT = some ⟨g, 0, none⟩ ∧ g < w4.heap.size ∧ w4.cell? ⟨g, k, none⟩ = some (.slice ax TX[k].length cx) ∧ IntsAt w4 ax TX[k] := fun k hk => by
    obtain ⟨u, hu⟩ : ∃ u, vs[k]? = some u := ⟨_, List.getElem?_eq_getElem (by omega)⟩
    obtain ⟨ax, cx, hux, hox⟩ := rT.2 k hk u hu
    rcases oT.form with ⟨_, _, h0, _⟩ | ⟨g, rfl, _, hlt, _, _, _, hc⟩
    · omega
    · exact ⟨g, ax, cx, rfl, hlt, by rw [hc k u hu, hux], hox.ints.1⟩
  have hTl : TX.length ≤ 1000000000000 := by
    rw [← hTX]
    have := TextsF_len R.data.toList (K : Int) (ss.map fun x => x.data.toList) (by rw [List.length_map]; omega) (P + 1) (by omega)
    omega
  rw [hvl]
  obtain ⟨N, hN⟩ : ∃ N, TX.length = N := ⟨_, rfl⟩
  have HN := Lib.hid hN
  rw [hN] at hTl ⊢
  have Hmem := Lib.hid hmem
  have Hlens := Lib.hid hlens
  have Hrng := Lib.hid hrng
  have Hcell := Lib.hid hcell
  clear hTX hmem hlens hrng rT oT hvl hcell hN hxC hw hST
  go_upto_region 8 with fail
  go_loopw [17, 18, 19] (fun o i _ X => ∃ (k : Nat) (l : List Int) (ao : Option Addr) (co : Nat), k ≤ N ∧ i = .int .i64 (k : Int) ∧ o = .slice ao l.length co ∧ OwnL 3 1 w4.heap.size X ao co l.length (l.map (Value.int .i64)) ∧ Below w4.heap.size w4 X ∧ Hid (∀ x ∈ l, 0 ≤ x ∧ x < s) ∧ l.length ≤ k ∧ Hid (∀ j (h : j < TX.length), j < k → TX[j] = lowF ss.length m P → (m : Int) ∈ l)) (fun _ i _ _ => N - (intOf i).toNat)
  case atStart => exact ⟨0, [], none, 0, Nat.zero_le _, rfl, rfl, OwnL.nil _ _ _ _, Below.refl _ _, Lib.hid (fun x hx => by cases hx), Nat.le_refl _, Lib.hid (fun j _ h => absurd h (by omega))⟩
  case round =>
    obtain ⟨k, l, ao, co, hk, rfl, rfl, own, hX, Hl, hlk, Hml⟩ := hrel
    rename World => X
    have q0 := below_cell hX q0
    have p0 := below_cell hX p0
    have lq := Nat.lt_of_lt_of_le lq hX.size
    have lp := Nat.lt_of_lt_of_le lp hX.size
    have hx := hx.below hX
    have zX := hX.size
    by_cases hlt : k < N
    · have hkI : (k : Int) < (N : Int) := by omega
      have hk0 : (0 : Int) ≤ (k : Int) := by omega
      have hkT : k < TX.length := by rw [HN.out]; exact hlt
      obtain ⟨g, ax, cx, rfl, lg, hc, hI⟩ := Hcell.out k hkT
      have hc2 := below_cell hX hc
      have lg2 := Nat.lt_of_lt_of_le lg zX
      have hr := Hrng.out TX[k] (List.getElem_mem hkT)
      have hl5 := Hlens.out TX[k] (List.getElem_mem hkT)
      have hst : ∀ j (h : j < TX.length), j < k + 1 → TX[j] = lowF ss.length m P → (∃ h : j < TX.length, j < k ∧ TX[j] = lowF ss.length m P) ∨ TX[k] = lowF ss.length m P := fun j h hj he => by
        rcases Nat.lt_or_ge j k with h1 | h1
        · exact .inl ⟨h, h1, he⟩
        · have e : j = k := by omega
          subst e
          exact .inr he
      obtain ⟨t, ht⟩ : ∃ t, TX[k] = t := ⟨_, rfl⟩
      rw [ht] at hc2 hI hr hl5 hst
      have hlow : t = lowF ss.length m P → t.length = P ∧ meantF ss.length t = (m : Int) := fun e => by rw [e]; exact ⟨lowF_len _ _ _, meant_of hml⟩
      obtain ⟨v, hv⟩ : ∃ v, (if t.length = P then meantF ss.length t else -1) = v := ⟨_, rfl⟩
      have hvm : t = lowF ss.length m P → v = (m : Int) := fun e => by rw [← hv, if_pos (hlow e).1]; exact (hlow e).2
      have hvb : -1 ≤ v ∧ v ≤ 2401 := by
        rw [← hv]
        split
        · rename_i hP
          have := meant_take h6 t hr P hP4
          rw [List.take_of_length_le (by omega)] at this
          omega
        · omega
      have mt := fun (W : World) (b : Below X.heap.size X W) => meant_any (some ⟨bc, oc, none⟩) ss.length cc ax t cx P W ((hI.below hX).below b) h6 (by omega) hP4 hr
      rw [hv] at mt
      have Hvm := Lib.hid hvm
      have Hst := Lib.hid hst
      clear hc lg hI hr hl5 hlow hv ht hvm hst
      go_upto_region 10 with fail
      (refine wp_region_ext 8 (by kernel_rfl) (by kernel_rfl) ?_; simp only [List.take_succ_cons, List.take_zero, List.drop_succ_cons, List.drop_zero]; (repeat (go_big_quiet_step (((go_at_call 29; refine Calls_ext (mt _ (Ext.below _))))))); refine wpQuiet_nil ?_; rintro _ ⟨ex, rfl⟩; have hex := ex.below; have hexz := ex.size; (try simp at hexz); (try (have hy0 : w.heap.size < ex.to.heap.size := by omega)); (try (have hy1 : w.heap.size + 1 < ex.to.heap.size := by omega)); (try (have hy2 : w.heap.size + 2 < ex.to.heap.size := by omega)))
      have q5 := below_cell hex q0
      have p5 := below_cell hex p0
      have own5 := own.kept hex
      have hX5 : Below w4.heap.size w4 ex.to := hX.trans (hex.mono zX)
      have lp5 := Nat.lt_of_lt_of_le lp hexz
      obtain ⟨X5, hX5e⟩ : ∃ x : World, x = ex.to := ⟨_, rfl⟩
      rw [← hX5e] at q5 p5 own5 hX5 lp5 ⊢
      clear hX5e own mt q0 p0
      by_cases hv0 : 0 ≤ v
      · by_cases hvs : v < s
        · go_upto_region 12 with fail
          go_wp2_with (at_builtin; refine wpList_app_lit elIntF rfl _ _ rfl w4.heap.size ao l.length co _ rfl own5 1 1 rfl rfl (fun u hu => ?c1) ?c2 ?c3 ?c4 ?_)
          case c1 => simp at hu; subst hu; rfl
          case c2 => unfold maxLen; omega
          case c3 => omega
          case c4 => exact hX5.size
          intro a6 c6 w6 o6 b6
          go_wp2
          go_roundw
          case rel => exact ⟨k + 1, l ++ [v], a6, c6, by omega, by go_num, by simp, by simpa using o6, hX5.trans b6, Lib.hid (fun x hxm => by
            rcases List.mem_append.1 hxm with h | h
            · exact Hl.out x h
            · simp at h; subst h; exact ⟨hv0, hvs⟩), by simp; omega, Lib.hid (fun j h hj he => by
            rcases Hst.out j h hj he with ⟨h1, h2, h3⟩ | h1
            · exact List.mem_append_left _ (Hml.out j h1 h2 h3)
            · rw [← Hvm.out h1]; exact List.mem_append_right _ (by simp))⟩
          case measure => simp [intOf]; omega
        · go_wp2
          go_roundw
          case rel => exact ⟨k + 1, l, ao, co, by omega, by go_num, rfl, own5, hX5, Hl, by omega, Lib.hid (fun j h hj he => by
            rcases Hst.out j h hj he with ⟨h1, h2, h3⟩ | h1
            · exact Hml.out j h1 h2 h3
            · have := Hvm.out h1; omega)⟩
          case measure => simp [intOf]; omega
      · go_wp2
        go_roundw
        case rel => exact ⟨k + 1, l, ao, co, by omega, by go_num, rfl, own5, hX5, Hl, by omega, Lib.hid (fun j h hj he => by
          rcases Hst.out j h hj he with ⟨h1, h2, h3⟩ | h1
          · exact Hml.out j h1 h2 h3
          · have := Hvm.out h1; omega)⟩
        case measure => simp [intOf]; omega
    · have hkN : k = N := by omega
      have hkI : ¬ (k : Int) < (N : Int) := by omega
      have hfin : (m : Int) ∈ l := by
        obtain ⟨j, hj, he⟩ := List.getElem_of_mem Hmem.out
        exact Hml.out j hj (by have := HN.out; omega) he
      have Hfin := Lib.hid hfin
      have tX : Below w.heap.size w X := t4.trans (hX.mono t4.size)
      have hI := own.ints.1
      clear own hfin
      go_wp2
      go_ret2
      exact ⟨⟨ao, co, l, rfl, hI, Hl.out, Hfin.out, by omega⟩, tX⟩
end Go.Proofs.Ytnofcpihkglmmaa
