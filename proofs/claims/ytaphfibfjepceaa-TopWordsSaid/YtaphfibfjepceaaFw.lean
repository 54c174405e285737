/- TopWords: the main way -/
import Derived.Test.YtaphfibfjepceaaFu
import Derived.Test.YtaphfibfjepceaaFv
namespace Go.Proofs.Ytaphfibfjepceaa
set_option linter.unusedVariables false
set_option linter.unusedSimpArgs false
set_option linter.unnecessarySimpa false
open Go.RowKit Go.Flow Go.Shelf
theorem bounds_eq (st rate keeps : Int) (ds : List Dis) (ad : Option Addr) (cd : Nat) (w : World) (O : List (Int × Int)) (H0 : Hid (accErr ⟨st, rate, keeps, ds⟩ = 0)) (HO : Hid (bdOut ⟨st, rate, keeps, ds⟩ = O)) (hd : DisAt w ad ds) (SM : Hid (AccSmall ⟨st, rate, keeps, ds⟩)) :
    Calls Try.prog 15 #[.agg #[.int .i64 st, .int .i64 rate, .int .i64 keeps, .slice ad ds.length cd]] w fun e w' => (∃ a c, e = .returned (.tuple #[.slice a O.length c, .int .i64 0]) ∧ Recs2At w' a O) ∧ Below w.heap.size w w' := by
  rw [← HO.out]
  exact Bounds_good st rate keeps ds ad cd w hd SM.out H0.out
theorem bal_eq' (st rate keeps : Int) (ds : List Dis) (ad : Option Addr) (cd : Nat) (at_ : Option Addr) (t : List Int) (ct m : Nat) (w : World) (B : List Int) (eB : Int) (Hm : Hid (m = t.length)) (H0 : Hid (accErr ⟨st, rate, keeps, ds⟩ = 0)) (HB : Hid (balOut ⟨st, rate, keeps, ds⟩ t = B)) (He : Hid (balErr ⟨st, rate, keeps, ds⟩ t = eB)) (hd : DisAt w ad ds) (SM : Hid (AccSmall ⟨st, rate, keeps, ds⟩)) (ht : IntsAt w at_ t) (lt : t.length ≤ 1000) :
    Calls Try.prog 17 #[.agg #[.int .i64 st, .int .i64 rate, .int .i64 keeps, .slice ad ds.length cd], .slice at_ m ct] w fun e w' => (∃ a c, e = .returned (.tuple #[.slice a B.length c, .int .i64 eB]) ∧ IntsAt w' a B) ∧ Below w.heap.size w w' := by
  rw [Hm.out]
  exact bal_eq st rate keeps ds ad cd w at_ t ct B eB H0 HB He hd SM ht lt
theorem fitsL_le (rate keeps : Int) (d : Dis) (j : Nat) (p : Int) (m : Nat) : (fitsL rate keeps d j p m).length ≤ m := by
  unfold fitsL
  rw [List.length_map]
  exact Nat.le_trans (List.length_filter_le _ _) (by simp)
theorem words_t (st rate keeps : Int) (ds : List Dis) (ad : Option Addr) (cd : Nat) (i k : Nat) (x cs cp : Int) (F : List Int) (w : World) (H0 : Hid (accErr ⟨st, rate, keeps, ds⟩ = 0)) (hi : i < ds.length) (Hk : Hid (∃ h : k < ds[i].passed.length, ds[i].passed[k] = cs)) (Hp : Hid ((sharesF rate keeps ds[i].passed.length x).getD k 0 = cp)) (Hx : Hid (ds[i].lo ≤ x ∧ x ≤ ds[i].hi)) (HF : Hid (clF rate keeps ds[i] x k = F)) (hd : DisAt w ad ds) (SM : Hid (AccSmall ⟨st, rate, keeps, ds⟩)) :
    Calls Try.prog 19 #[.agg #[.int .i64 st, .int .i64 rate, .int .i64 keeps, .slice ad ds.length cd], .agg #[.int .i64 (i : Int), .int .i64 cs, .int .i64 cp]] w fun e w' => (∃ a c, e = .returned (.tuple #[.slice a F.length c, .int .i64 0]) ∧ IntsAt w' a F) ∧ Below w.heap.size w w' := by
  obtain ⟨hk, hc⟩ := Hk.out
  have A := accErr_ok H0.out
  have hn := (disB_ok (A.dis _ (List.getElem_mem hi))).nd
  have hx := Hx.out
  have e1 : idxF ds[i].passed cs = (k : Int) := by rw [← hc]; exact idxF_at hn hk
  have e2 : wordsOut rate keeps ds[i] cs cp = F := by
    rw [wordsOut, e1, if_neg (by omega), ← HF.out, clF, Hp.out, Int.toNat_natCast]
  have hm : x ∈ F := by rw [← HF.out]; exact (clF_mem hx).2 rfl
  have e3 : wordsErr rate keeps ds[i] cs cp = 0 := by
    have h2 := e2
    rw [wordsOut, e1, if_neg (by omega)] at h2
    rw [wordsErr, e1, if_neg (by omega), h2, err11, if_neg (fun e => by rw [e] at hm; cases hm)]
  have := Words_in st rate keeps ds ad cd i cs cp w hd SM.out H0.out hi
  rw [e2, e3] at this
  exact this
def AccW (st rate keeps : Int) (ds : List Dis) (v : Value) (w : World) : Prop := ∃ a c, v = .agg #[.int .i64 st, .int .i64 rate, .int .i64 keeps, .slice a ds.length c] ∧ DisAt w a ds
theorem AccW.kept {st rate keeps : Int} {ds : List Dis} {v : Value} {w w' : World} (h : AccW st rate keeps ds v w) (hb : Below w.heap.size w w') : AccW st rate keeps ds v w' := let ⟨a, c, h1, h2⟩ := h; ⟨a, c, h1, h2.below hb⟩
def TupV (S : List Int) (E : Int) (v : Value) (w : World) : Prop := ∃ a c, v = .tuple #[.slice a S.length c, .int .i64 E] ∧ IntsAt w a S
theorem TupV.kept {S : List Int} {E : Int} {v : Value} {w w' : World} (h : TupV S E v w) (hb : Below w.heap.size w w') : TupV S E v w' := let ⟨a, c, h1, h2⟩ := h; ⟨a, c, h1, h2.below hb⟩
def SlV (S : List Int) (v : Value) (w : World) : Prop := ∃ a c, v = .slice a S.length c ∧ IntsAt w a S
theorem SlV.kept {S : List Int} {v : Value} {w w' : World} (h : SlV S v w) (hb : Below w.heap.size w w') : SlV S v w' := let ⟨a, c, h1, h2⟩ := h; ⟨a, c, h1, h2.below hb⟩
def IntV (E : Int) (v : Value) (_ : World) : Prop := v = .int .i64 E
theorem IntV.kept {E : Int} {v : Value} {w w' : World} (h : IntV E v w) (_ : Below w.heap.size w w') : IntV E v w' := h
theorem f2Signs_eq (a : Option Addr) (ss : List ByteArray) (c : Nat) (at0 : Option Addr) (text : List Int) (ct : Nat) (w : World) (hx : StrsAt w a ss) (HT : Hid (thinS ss = true)) (ht : IntsAt w at0 text) (hl : text.length ≤ 5) (H5 : Hid (isTextB ss.length text = true)) :
    Calls Try.prog 11 #[.agg #[.slice a ss.length c], .slice at0 text.length ct] w fun e w' => ∃ Z : ByteArray, (e = .returned (.string Z) ∧ Z.data.toList = sentF (ss.map fun x => x.data.toList) [] text) ∧ Below w.heap.size w w' :=
  f2Signs a ss c at0 text ct _ rfl w hx ht (by omega) (fun x hm => by
    have := List.all_eq_true.1 H5.out x hm
    simp only [Bool.and_eq_true, decide_eq_true_eq] at this
    omega) (fun x hm => by have := (thinS_iff HT.out).2 x hm; omega)
theorem info_disR : (Try.prog.info? 48).map (fun i => (i.zero, i.size, i.bytes)) = some (some (.agg #[.int .i64 0, .int .i64 0, .int .i64 0, .slice none 0 0]), 4, 48) := by kernel_rfl
theorem elDisR : Elem Try.prog 27 48 (.agg #[.int .i64 0, .int .i64 0, .int .i64 0, .slice none 0 0]) 4 48 := ⟨Try.underlying27, info_parts info_disR, rfl, by decide⟩
/-- A store into an own row. -/
theorem OwnL.setV {E : TypeId} {size base : Nat} {w : World} {g c n : Nat} {xs : List Value} (h : OwnL E size base w (some ⟨g, 0, none⟩) c n xs) {j : Nat} (hj : j < xs.length) (v : Value) : OwnL E size base (w.setCell ⟨g, j, none⟩ v) (some ⟨g, 0, none⟩) c n (xs.set j v) := by
  refine ⟨by rw [List.length_set]; exact h.1, ?_⟩
  rcases h.2 with ⟨h1, _⟩ | ⟨g', cap, cur, hv, hbg, hg, hnc, hcm, hcs, ht⟩
  · cases h1
  · have e1 : g = g' := by simp at hv; exact hv.1
    subst e1
    have hC : Cells w g cur E := hg
    refine .inr ⟨g, cap, _, hv, hbg, hC.set j v, hnc, hcm, by simp; exact hcs, ?_⟩
    rw [Array.toList_setIfInBounds, List.take_set, ht]
/-- The signs of a text of few letters are few. -/
theorem sent_len (SS : List (List UInt8)) (hs : ∀ s ∈ SS, s.length ≤ 4) : ∀ (xs pre : List Int), (sentF SS pre xs).length ≤ 5 * xs.length
  | [], _ => by simp [sentF]
  | x :: xs, pre => by
    have ih := sent_len SS hs xs (pre ++ [x])
    have h1 : (SS.getD x.toNat []).length ≤ 4 := by
      rw [List.getD_eq_getElem?_getD]
      cases h : SS[x.toNat]? with
      | none => simp
      | some s => exact hs s (List.mem_of_getElem? h)
    have h2 : (sgsOf pre (SS.getD x.toNat [])).length ≤ 5 := by
      unfold sgsOf
      split
      · omega
      · rw [List.length_cons]; omega
    rw [sentF, List.length_append, List.length_cons]
    omega
theorem sent_bytes (SS : List (List UInt8)) (hs : ∀ s ∈ SS, ∀ b ∈ s, b = 46 ∨ b = 45 ∨ b = 32) : ∀ (xs pre : List Int), ∀ b ∈ sentF SS pre xs, b = 46 ∨ b = 45 ∨ b = 32
  | [], _, b, hb => by simp [sentF] at hb
  | x :: xs, pre, b, hb => by
    rw [sentF] at hb
    rcases List.mem_append.1 hb with h | h
    · have h1 : ∀ b ∈ SS.getD x.toNat [], b = 46 ∨ b = 45 ∨ b = 32 := by
        rw [List.getD_eq_getElem?_getD]
        cases h : SS[x.toNat]? with
        | none => intro b hb; simp at hb
        | some s => exact hs s (List.mem_of_getElem? h)
      unfold sgsOf at h
      split at h
      · exact h1 b h
      · rcases List.mem_cons.1 h with h | h
        · exact .inr (.inr h)
        · exact h1 b h
    · exact sent_bytes SS hs xs _ b h
theorem der_bytes {s r : List UInt8} {e : Nat} (h : Der s r e) (hs : ∀ b ∈ s, b = 46 ∨ b = 45 ∨ b = 32) : ∀ b ∈ r, b = 46 ∨ b = 45 ∨ b = 32 := by
  induction h with
  | nil => intro b hb; cases hb
  | copy x h ih =>
    intro b hb
    rcases List.mem_append.1 hb with h | h
    · exact ih (fun b hb => hs b (List.mem_append_left _ hb)) b h
    · exact hs b (List.mem_append_right _ h)
  | miss x h ih => exact ih (fun b hb => hs b (List.mem_append_left _ hb))
  | split h ih =>
    intro b hb
    rcases List.mem_append.1 hb with h | h
    · exact ih (fun b hb => hs b (List.mem_append_left _ hb)) b h
    · simp at h; exact .inl h
  | join h ih =>
    intro b hb
    rcases List.mem_append.1 hb with h | h
    · exact ih (fun b hb => hs b (List.mem_append_left _ hb)) b h
    · simp at h; exact .inr (.inl h)
  | gap h ih =>
    intro b hb
    rcases List.mem_append.1 hb with h | h
    · exact ih hs b h
    · simp at h; exact .inr (.inr h)
theorem code_bytes {ss : List ByteArray} (ok : CodeOk ss) : (∀ s ∈ ss.map (fun x => x.data.toList), s.length ≤ 4) ∧ ∀ s ∈ ss.map (fun x => x.data.toList), ∀ b ∈ s, b = 46 ∨ b = 45 ∨ b = 32 := by
  constructor
  · intro s hs
    obtain ⟨x, hx, rfl⟩ := List.mem_map.1 hs
    have := (ok.size x hx).2
    rw [Array.length_toList]; exact this
  · intro s hs b hb
    obtain ⟨x, hx, rfl⟩ := List.mem_map.1 hs
    have := ok.letters x hx
    unfold letterB at this
    rw [Bool.and_eq_true] at this
    have := List.all_eq_true.1 this.2 b hb
    simp at this
    rcases this with h | h
    · exact .inl h
    · exact .inr (.inl h)
set_option maxRecDepth 100000 in
set_option maxHeartbeats 16000000 in
theorem topw_main (ac : Option Addr) (ss : List ByteArray) (cc : Nat) (at0 : Option Addr) (text : List Int) (ct : Nat) (aw : Option Addr) (ws : List Int) (cw : Nat) (er : Int) (st rate keeps : Int) (ds : List Dis) (ad : Option Addr) (cd : Nat) (wh : Int) (w : World) (hx : StrsAt w ac ss) (hsl : ss.length ≤ 9223372036854775807) (ht : IntsAt w at0 text) (hd : DisAt w ad ds) (big : AccBig ds) (hw : U16At w aw ws) (hu : ∀ n ∈ ws, 0 ≤ n ∧ n ≤ 65535) (mw : ws.length ≤ 9223372036854775807) (her : 0 ≤ er ∧ er ≤ 255) (hwh : 0 ≤ wh ∧ wh ≤ 255) (nc : ac = none → cc = 0) (h1 : thinS ss = true) (h2 : faultS ss = 0) (h3 : text.length ≠ 0) (h4 : text.length ≤ 5) (h5 : isTextB ss.length text = true) (h6 : thinB ds = true) (h7 : accErr ⟨st, rate, keeps, ds⟩ = 0) (h8 : ds.length ≠ 0) :
    Calls Try.prog 3 #[.agg #[.slice ac ss.length cc], .slice at0 text.length ct, .slice aw ws.length cw, .int .u8 er, .agg #[.int .i64 st, .int .i64 rate, .int .i64 keeps, .slice ad ds.length cd], .int .u8 wh] w fun e w' => e = .returned (.bool true) ∧ Below w.heap.size w w' := by
  have HC := Lib.hid (codeOk_of h2)
  have hcp := (codeOk_of h2).pos
  have hc6 := (codeOk_of h2).le
  have hcb := code_bytes (codeOk_of h2)
  have hn9 := (thinS_iff h1).1
  have H0 := Lib.hid h7
  have SM := Lib.hid (thin_small (st := st) (rate := rate) (keeps := keeps) h6)
  have HU : Hid (∀ n ∈ ws, 0 ≤ n ∧ n ≤ 65535) := Lib.hid hu
  obtain ⟨en, rfl⟩ : ∃ en : Nat, er = (en : Int) := ⟨er.toNat, by omega⟩
  obtain ⟨K, hK⟩ : ∃ K, en % 3 = K := ⟨_, rfl⟩
  have hK2 : K ≤ 2 := by omega
  have ecv : IntKind.i64.wrap (en : Int) = (en : Int) := IntWalk.i64_in _ (by omega)
  have etm : Int.tmod (en : Int) 3 = (K : Int) := by rw [← hK]; rfl
  have h3p : 0 < text.length := by omega
  have h8p : 0 < ds.length := by omega
  clear hK hu
  obtain ⟨wn, rfl⟩ : ∃ wn : Nat, wh = (wn : Int) := ⟨wh.toNat, by omega⟩
  obtain ⟨i, hie⟩ : ∃ i, wn % ds.length = i := ⟨_, rfl⟩
  have hi : i < ds.length := by rw [← hie]; exact Nat.mod_lt _ (by omega)
  have icv : IntKind.i64.wrap (wn : Int) = (wn : Int) := IntWalk.i64_in _ (by omega)
  have itm : Int.tmod (wn : Int) (ds.length : Int) = (i : Int) := by rw [← hie]; rfl
  have inz : ¬ ((ds.length : Int) = 0) := by omega
  have inb : ((ds.length : Int) == 0) = false := by rw [beq_eq_false_iff_ne]; exact inz
  have hiI : (i : Int) < (ds.length : Int) := by omega
  have hi0 : (0 : Int) ≤ (i : Int) := by omega
  have hds6 : ds.length ≤ 6 := (accErr_ok h7).len
  clear hie
  have HB := Lib.hid big
  have H1 := Lib.hid h1
  have H2 := Lib.hid h2
  have f3 : ((text.length : Int) == 0) = false := by rw [beq_eq_false_iff_ne]; omega
  have f4 : ¬ (5 : Int) < (text.length : Int) := by omega
  have H5 := Lib.hid h5
  have H6 := Lib.hid h6
  have H7 := Lib.hid h7
  have f8 : ((ds.length : Int) == 0) = false := by rw [beq_eq_false_iff_ne]; omega
  clear big h1 h2 h3 h5 h6 h7
  go_enter Try.func3, Try.ntmps3
  go_wp2_with fail
  go_at_call 4
  refine (f2Thin_eq true ac ss cc _ H1 (hx.below (by (repeat (first | exact Below.refl _ _ | refine Below.alloc ?_ (by first | omega | (simp; done) | (simp; omega)) _ | refine Below.drew ?_ | refine Below.setCell ?_ (by first | omega | (simp; done) | (simp; omega)) _ | refine Below.trans ?_ (Below.mono (by assumption) (by first | omega | (simp; done) | (simp; omega))))))) hsl).mono ?_
  rintro e w1 ⟨rfl, b1⟩
  have t1 : Below w.heap.size w w1 := by (repeat (first | exact Below.refl _ _ | refine Below.alloc ?_ (by first | omega | (simp; done) | (simp; omega)) _ | refine Below.drew ?_ | refine Below.setCell ?_ (by first | omega | (simp; done) | (simp; omega)) _ | refine Below.trans ?_ (Below.mono (by assumption) (by first | omega | (simp; done) | (simp; omega)))))
  replace hw := hw.below t1
  replace hx := hx.below t1
  replace ht := ht.below t1
  replace hd := hd.below t1
  have CB := ((Cells.new w #[.slice ac ss.length cc] 24).alloc (.cells #[.int .i64 st, .int .i64 rate, .int .i64 keeps, .slice ad ds.length cd] 29)).below b1
  have CA := (Cells.new' (w.alloc (.cells #[.slice ac ss.length cc] 24)) #[.int .i64 st, .int .i64 rate, .int .i64 keeps, .slice ad ds.length cd] 29 (w.heap.size + 1) (by simp)).below b1
  have q0 := CB.cell 0
  have p0 := CA.cell 0
  have p1 := CA.cell 1
  have p2 := CA.cell 2
  have p3 := CA.cell 3
  simp at q0 p0 p1 p2 p3
  have lq := CB.lt
  have lp := CA.lt
  clear CB CA
  go_wp2_with fail
  go_at_call 5
  refine (f2Fault_eq 0 ac ss cc _ H2 H1 hx).mono ?_
  rintro e w2 ⟨rfl, b2⟩
  have j2 : Below w1.heap.size w1 w2 := by (repeat (first | exact Below.refl _ _ | refine Below.alloc ?_ (by first | omega | (simp; done) | (simp; omega)) _ | refine Below.drew ?_ | refine Below.setCell ?_ (by first | omega | (simp; done) | (simp; omega)) _ | refine Below.trans ?_ (Below.mono (by assumption) (by first | omega | (simp; done) | (simp; omega)))))
  have t2 : Below w.heap.size w w2 := t1.trans (j2.mono t1.size)
  replace hw := hw.below j2
  replace hx := hx.below j2
  replace ht := ht.below j2
  replace hd := hd.below j2
  replace q0 := below_cell j2 q0
  replace p0 := below_cell j2 p0
  replace p1 := below_cell j2 p1
  replace p2 := below_cell j2 p2
  replace p3 := below_cell j2 p3
  replace lq := Nat.lt_of_lt_of_le lq j2.size
  replace lp := Nat.lt_of_lt_of_le lp j2.size
  go_wp2_with fail
  go_at_call 6
  refine (f2IsText_eq true ac ss cc at0 text ct _ H5 H1 ht h4).mono ?_
  rintro e w3 ⟨rfl, b3⟩
  have j3 : Below w2.heap.size w2 w3 := by (repeat (first | exact Below.refl _ _ | refine Below.alloc ?_ (by first | omega | (simp; done) | (simp; omega)) _ | refine Below.drew ?_ | refine Below.setCell ?_ (by first | omega | (simp; done) | (simp; omega)) _ | refine Below.trans ?_ (Below.mono (by assumption) (by first | omega | (simp; done) | (simp; omega)))))
  have t3 : Below w.heap.size w w3 := t2.trans (j3.mono t2.size)
  replace hw := hw.below j3
  replace hx := hx.below j3
  replace ht := ht.below j3
  replace hd := hd.below j3
  replace q0 := below_cell j3 q0
  replace p0 := below_cell j3 p0
  replace p1 := below_cell j3 p1
  replace p2 := below_cell j3 p2
  replace p3 := below_cell j3 p3
  replace lq := Nat.lt_of_lt_of_le lq j3.size
  replace lp := Nat.lt_of_lt_of_le lp j3.size
  go_wp2_with fail
  go_at_call 7
  refine (thin_eq st rate keeps ds ad cd _ true H6 hd HB).mono ?_
  rintro e w4 ⟨rfl, b4⟩
  have j4 : Below w3.heap.size w3 w4 := by (repeat (first | exact Below.refl _ _ | refine Below.alloc ?_ (by first | omega | (simp; done) | (simp; omega)) _ | refine Below.drew ?_ | refine Below.setCell ?_ (by first | omega | (simp; done) | (simp; omega)) _ | refine Below.trans ?_ (Below.mono (by assumption) (by first | omega | (simp; done) | (simp; omega)))))
  have t4 : Below w.heap.size w w4 := t3.trans (j4.mono t3.size)
  replace hw := hw.below j4
  replace hx := hx.below j4
  replace ht := ht.below j4
  replace hd := hd.below j4
  replace q0 := below_cell j4 q0
  replace p0 := below_cell j4 p0
  replace p1 := below_cell j4 p1
  replace p2 := below_cell j4 p2
  replace p3 := below_cell j4 p3
  replace lq := Nat.lt_of_lt_of_le lq j4.size
  replace lp := Nat.lt_of_lt_of_le lp j4.size
  go_wp2_with fail
  go_at_call 8
  refine (rFault_eq' st rate keeps ds ad cd 0 _ H7 H6 hd).mono ?_
  rintro e w5 ⟨rfl, b5⟩
  have j5 : Below w4.heap.size w4 w5 := by (repeat (first | exact Below.refl _ _ | refine Below.alloc ?_ (by first | omega | (simp; done) | (simp; omega)) _ | refine Below.drew ?_ | refine Below.setCell ?_ (by first | omega | (simp; done) | (simp; omega)) _ | refine Below.trans ?_ (Below.mono (by assumption) (by first | omega | (simp; done) | (simp; omega)))))
  have t5 : Below w.heap.size w w5 := t4.trans (j5.mono t4.size)
  replace hw := hw.below j5
  replace hx := hx.below j5
  replace ht := ht.below j5
  replace hd := hd.below j5
  replace q0 := below_cell j5 q0
  replace p0 := below_cell j5 p0
  replace p1 := below_cell j5 p1
  replace p2 := below_cell j5 p2
  replace p3 := below_cell j5 p3
  replace lq := Nat.lt_of_lt_of_le lq j5.size
  replace lp := Nat.lt_of_lt_of_le lp j5.size
  go_wp2_with fail
  go_at_call 11
  refine (f2Signs_eq ac ss cc at0 text ct _ hx H1 ht h4 H5).mono ?_
  rintro e w6 ⟨Z, ⟨rfl, hZ⟩, b6⟩
  have j6 : Below w5.heap.size w5 w6 := by (repeat (first | exact Below.refl _ _ | refine Below.alloc ?_ (by first | omega | (simp; done) | (simp; omega)) _ | refine Below.drew ?_ | refine Below.setCell ?_ (by first | omega | (simp; done) | (simp; omega)) _ | refine Below.trans ?_ (Below.mono (by assumption) (by first | omega | (simp; done) | (simp; omega)))))
  have t6 : Below w.heap.size w w6 := t5.trans (j6.mono t5.size)
  replace hw := hw.below j6
  replace hx := hx.below j6
  replace ht := ht.below j6
  replace hd := hd.below j6
  replace q0 := below_cell j6 q0
  replace p0 := below_cell j6 p0
  replace p1 := below_cell j6 p1
  replace p2 := below_cell j6 p2
  replace p3 := below_cell j6 p3
  replace lq := Nat.lt_of_lt_of_le lq j6.size
  replace lp := Nat.lt_of_lt_of_le lp j6.size
  have HZ := Lib.hid hZ
  have hZs : Z.size ≤ 100 := by
    have h := sent_len _ hcb.1 text []
    rw [← hZ, Array.length_toList] at h
    show Z.data.size ≤ 100
    omega
  clear hZ
  go_wp2_with fail
  go_at_call 10
  refine (f2Misread Z aw ws cw K _ hZs (fun k hk => hw k hk) HU.out mw (by omega)).mono ?_
  rintro e w7 ⟨R, ar, nr, cr, ⟨rfl, ke, hke, hder⟩, b7⟩
  have j7 : Below w6.heap.size w6 w7 := by (repeat (first | exact Below.refl _ _ | refine Below.alloc ?_ (by first | omega | (simp; done) | (simp; omega)) _ | refine Below.drew ?_ | refine Below.setCell ?_ (by first | omega | (simp; done) | (simp; omega)) _ | refine Below.trans ?_ (Below.mono (by assumption) (by first | omega | (simp; done) | (simp; omega)))))
  have t7 : Below w.heap.size w w7 := t6.trans (j7.mono t6.size)
  replace hw := hw.below j7
  replace hx := hx.below j7
  replace ht := ht.below j7
  replace hd := hd.below j7
  replace q0 := below_cell j7 q0
  replace p0 := below_cell j7 p0
  replace p1 := below_cell j7 p1
  replace p2 := below_cell j7 p2
  replace p3 := below_cell j7 p3
  replace lq := Nat.lt_of_lt_of_le lq j7.size
  replace lp := Nat.lt_of_lt_of_le lp j7.size
  have HD := Lib.hid hder
  clear hder
  by_cases hR : 40 < R.size
  · have hRI : (40 : Int) < (R.size : Int) := by omega
    go_wp2_with fail
    go_at_call 9
    refine (worded_any _).mono ?_
    rintro e w8 ⟨rfl, b8⟩
    have j8 : Below w7.heap.size w7 w8 := by (repeat (first | exact Below.refl _ _ | refine Below.alloc ?_ (by first | omega | (simp; done) | (simp; omega)) _ | refine Below.drew ?_ | refine Below.setCell ?_ (by first | omega | (simp; done) | (simp; omega)) _ | refine Below.trans ?_ (Below.mono (by assumption) (by first | omega | (simp; done) | (simp; omega)))))
    have t8 : Below w.heap.size w w8 := t7.trans (j8.mono t7.size)
    replace hw := hw.below j8
    replace hx := hx.below j8
    replace ht := ht.below j8
    replace hd := hd.below j8
    replace q0 := below_cell j8 q0
    replace p0 := below_cell j8 p0
    replace p1 := below_cell j8 p1
    replace p2 := below_cell j8 p2
    replace p3 := below_cell j8 p3
    replace lq := Nat.lt_of_lt_of_le lq j8.size
    replace lp := Nat.lt_of_lt_of_le lp j8.size
    go_wp2_with fail
    go_ret
    exact ⟨rfl, t8⟩
  · have hRI : ¬ (40 : Int) < (R.size : Int) := by omega
    have hRs : SignsOk R := ⟨by omega, der_bytes HD.out (by rw [HZ.out]; exact sent_bytes _ hcb.2 text [])⟩
    have HRs := Lib.hid hRs
    clear hRs
    obtain ⟨bc, oc, hac, _⟩ := hx 0 hcp
    subst hac
    obtain ⟨bd, od, _, _, had, _⟩ := hd 0 h8p
    subst had
    have hst := (accErr_ok H0.out).st
    simp only at hst
    obtain ⟨n, rfl⟩ : ∃ n : Nat, st = (n : Int) := ⟨st.toNat, by omega⟩
    go_wp2_with fail
    go_at_call 13
    refine (f2Code ⟨bc, oc, none⟩ ss cc _ hx (by omega)).mono ?_
    rintro e w8 ⟨aC, cC, ⟨rfl, hxC, hcC⟩, b8⟩
    have j8 : Below w7.heap.size w7 w8 := by (repeat (first | exact Below.refl _ _ | refine Below.alloc ?_ (by first | omega | (simp; done) | (simp; omega)) _ | refine Below.drew ?_ | refine Below.setCell ?_ (by first | omega | (simp; done) | (simp; omega)) _ | refine Below.trans ?_ (Below.mono (by assumption) (by first | omega | (simp; done) | (simp; omega)))))
    have t8 : Below w.heap.size w w8 := t7.trans (j8.mono t7.size)
    replace hw := hw.below j8
    replace hx := hx.below j8
    replace ht := ht.below j8
    replace hd := hd.below j8
    replace q0 := below_cell j8 q0
    replace p0 := below_cell j8 p0
    replace p1 := below_cell j8 p1
    replace p2 := below_cell j8 p2
    replace p3 := below_cell j8 p3
    replace lq := Nat.lt_of_lt_of_le lq j8.size
    replace lp := Nat.lt_of_lt_of_le lp j8.size
    go_wp2_with fail
    go_at_call 12
    refine (Texts_any aC ss cC R (K : Int) 5 R.data.toList _ rfl rfl HRs.out (by omega) (by omega) HC.out _ hxC hcC).mono ?_
    rintro e w9 ⟨aT, cT, vs, rfl, oT, rT, b9⟩
    have j9 : Below w8.heap.size w8 w9 := by (repeat (first | exact Below.refl _ _ | refine Below.alloc ?_ (by first | omega | (simp; done) | (simp; omega)) _ | refine Below.drew ?_ | refine Below.setCell ?_ (by first | omega | (simp; done) | (simp; omega)) _ | refine Below.trans ?_ (Below.mono (by assumption) (by first | omega | (simp; done) | (simp; omega)))))
    have t9 : Below w.heap.size w w9 := t8.trans (j9.mono t8.size)
    replace hw := hw.below j9
    replace hx := hx.below j9
    replace ht := ht.below j9
    replace hd := hd.below j9
    replace q0 := below_cell j9 q0
    replace p0 := below_cell j9 p0
    replace p1 := below_cell j9 p1
    replace p2 := below_cell j9 p2
    replace p3 := below_cell j9 p3
    replace lq := Nat.lt_of_lt_of_le lq j9.size
    replace lp := Nat.lt_of_lt_of_le lp j9.size
    replace hxC := hxC.below j9
    obtain ⟨TX, hTX⟩ : ∃ TX, TextsF R.data.toList (K : Int) (ss.map fun x => x.data.toList) (5 + 1) = TX := ⟨_, rfl⟩
    rw [hTX] at rT
    have hmem : text ∈ TX := by
      rw [← hTX]
      refine texts_mem _ _ _ ke (by omega) text (fun x hm => ?_) (by rw [← HZ.out]; exact HD.out) (5 + 1) (by omega)
      have := List.all_eq_true.1 H5.out x hm
      simp only [Bool.and_eq_true, decide_eq_true_eq] at this
      rw [List.length_map]
      omega
    have hlens : ∀ t ∈ TX, t.length ≤ 5 := fun t hm => by
      have := texts_lens R.data.toList (K : Int) (ss.map fun x => x.data.toList) (5 + 1) t (by rw [hTX]; exact hm)
      omega
    have hvl : vs.length = TX.length := rT.1
    have hcell : ∀ k (h : k < TX.length), ∃ g ax cx, aT = some ⟨g, 0, none⟩ ∧ g < w9.heap.size ∧ w9.cell? ⟨g, k, none⟩ = some (.slice ax TX[k].length cx) := fun k hk => by
      obtain ⟨u, hu⟩ : ∃ u, vs[k]? = some u := ⟨_, List.getElem?_eq_getElem (by omega)⟩
      obtain ⟨ax, cx, hux, _⟩ := rT.2 k hk u hu
      rcases oT.form with ⟨_, _, h0, _⟩ | ⟨g, rfl, _, hlt, _, _, _, hc⟩
      · omega
      · exact ⟨g, ax, cx, rfl, hlt, by rw [hc k u hu, hux]⟩
    have hTl : TX.length ≤ 1000000000000 := by
      rw [← hTX]
      have := TextsF_len R.data.toList (K : Int) (ss.map fun x => x.data.toList) (by rw [List.length_map]; omega) (5 + 1) (by omega)
      omega
    rw [hvl]
    have HTl := Lib.hid hTl
    have Hmem := Lib.hid hmem
    have Hlens := Lib.hid hlens
    have Hcell := Lib.hid hcell
    clear hTX hmem hlens rT oT hvl hcell hxC hTl
    obtain ⟨NL, hNL⟩ : ∃ NL, TX.map List.length = NL := ⟨_, rfl⟩
    have hNl : NL.length = TX.length := by rw [← hNL, List.length_map]
    have hNk : ∀ k (h : k < TX.length), NL.getD k 0 = TX[k].length := fun k hk => by rw [← hNL, List.getD_eq_getElem?_getD, List.getElem?_map, List.getElem?_eq_getElem hk]; rfl
    have hN5 : ∀ n ∈ NL, n ≤ 5 := fun n hn => by
      rw [← hNL] at hn
      obtain ⟨t, ht, rfl⟩ := List.mem_map.1 hn
      exact Hlens.out t ht
    have hNm : text.length ∈ NL := by rw [← hNL]; exact List.mem_map.2 ⟨text, Hmem.out, rfl⟩
    have HNl := Lib.hid hNl
    have HNk := Lib.hid hNk
    have HN5 := Lib.hid hN5
    have HNm := Lib.hid hNm
    clear hNL hNl hNk hN5 hNm
    obtain ⟨m, hm⟩ : ∃ m, TX.length = m := ⟨_, rfl⟩
    have Hm := Lib.hid hm
    rw [hm]
    clear hm
    have hm12 : m ≤ 1000000000000 := by rw [← Hm.out]; exact HTl.out
    go_upto_region 12 with fail
    go_loopw [18, 19, 20] (fun lo hi i X => ∃ k : Nat, k ≤ m ∧ i = .int .i64 k ∧ lo = .int .i64 (lowN (NL.take k) : Nat) ∧ hi = .int .i64 (highN (NL.take k) : Nat) ∧ Below w9.heap.size w9 X) (fun _ _ u _ => m - (intOf u).toNat)
    case atStart => exact ⟨0, by omega, rfl, rfl, rfl, Below.refl _ _⟩
    case round =>
      obtain ⟨k, hk, rfl, rfl, rfl, hbX⟩ := hrel
      by_cases hlt : k < m
      · have hkI : (k : Int) < (m : Int) := by omega
        have hk0 : (0 : Int) ≤ (k : Int) := by omega
        obtain ⟨g, ax, cx, rfl, lg, hc⟩ := Hcell.out k (by rw [Hm.out]; exact hlt)
        rw [← HNk.out k (by rw [Hm.out]; exact hlt)] at hc
        have hkn : k < NL.length := by rw [HNl.out, Hm.out]; exact hlt
        have htk : NL.take (k + 1) = NL.take k ++ [NL.getD k 0] := by rw [List.take_succ_eq_append_getElem hkn, List.getD_eq_getElem?_getD, List.getElem?_eq_getElem hkn]; rfl
        have hl1 := lowN_snoc (NL.take k) (NL.getD k 0)
        have hh1 := highN_snoc (NL.take k) (NL.getD k 0)
        rw [← htk] at hl1 hh1
        obtain ⟨n, hn⟩ : ∃ n, NL.getD k 0 = n := ⟨_, rfl⟩
        obtain ⟨l0, hl0⟩ : ∃ z, lowN (NL.take k) = z := ⟨_, rfl⟩
        obtain ⟨h0, hh0⟩ : ∃ z, highN (NL.take k) = z := ⟨_, rfl⟩
        rw [hn] at hc
        rw [hn, hl0] at hl1
        rw [hn, hh0] at hh1
        rw [hl0, hh0]
        have Hl1 := Lib.hid hl1
        have Hh1 := Lib.hid hh1
        have hc2 := below_cell hbX hc
        have lg2 := Nat.lt_of_lt_of_le lg hbX.size
        clear hn hl0 hh0 hl1 hh1 htk hc lg
        obtain ⟨M, hM⟩ : ∃ M, max 1 n = M := ⟨_, rfl⟩
        obtain ⟨l2, hl2⟩ : ∃ z, min l0 M = z := ⟨_, rfl⟩
        obtain ⟨h2, hh2⟩ : ∃ z, max h0 n = z := ⟨_, rfl⟩
        have i1 : (if (1 : Int) < (n : Int) then (n : Int) else 1) = (M : Int) := by split <;> omega
        have i2 : (if (M : Int) < (l0 : Int) then (M : Int) else (l0 : Int)) = (l2 : Int) := by split <;> omega
        have i3 : (if (h0 : Int) < (n : Int) then (n : Int) else (h0 : Int)) = (h2 : Int) := by split <;> omega
        have Hl2 : Hid (lowN (NL.take (k + 1)) = l2) := Lib.hid (by rw [Hl1.out, hM, hl2])
        have Hh2 : Hid (highN (NL.take (k + 1)) = h2) := Lib.hid (by rw [Hh1.out, hh2])
        clear hM hl2 hh2 Hl1 Hh1
        go_upto_region 14 with fail
        (refine wp_region_ext 17 (by kernel_rfl) (by kernel_rfl) ?_; simp only [List.take_succ_cons, List.take_zero, List.drop_succ_cons, List.drop_zero]; (repeat (go_big_quiet_step ((fail)))); refine wpQuiet_nil ?_; rintro _ ⟨ex, rfl⟩; have hex := ex.below; have hexz := ex.size; (try simp at hexz); (try (have hy0 : w.heap.size < ex.to.heap.size := by omega)); (try (have hy1 : w.heap.size + 1 < ex.to.heap.size := by omega)); (try (have hy2 : w.heap.size + 2 < ex.to.heap.size := by omega)))
        go_wp2
        go_roundw
        case rel => exact ⟨k + 1, by omega, by go_num, by rw [Hl2.out]; exact congrArg (Value.int .i64) (by have h := i2; simp only [Int.ofNat_lt] at h; exact h), by rw [Hh2.out]; exact congrArg (Value.int .i64) (by have h := i3; simp only [Int.ofNat_lt] at h; exact h), hbX.trans (hex.mono hbX.size)⟩
        case measure => simp [intOf]; omega
      · obtain rfl : k = m := by omega
        have htf : NL.take k = NL := by rw [← Hm.out, ← HNl.out, List.take_length]
        have hlo := lowN_bd NL
        have hlo2 := lowN_le (by omega) HNm.out
        have hhi := highN_ge HNm.out
        have hhi2 := highN_le HN5.out
        rw [htf]
        obtain ⟨l0, hl0⟩ : ∃ z, lowN NL = z := ⟨_, rfl⟩
        obtain ⟨h0, hh0⟩ : ∃ z, highN NL = z := ⟨_, rfl⟩
        rw [hl0] at hlo hlo2 ⊢
        rw [hh0] at hhi hhi2 ⊢
        clear hl0 hh0 htf Hcell HNm HN5 HNk HNl Hmem Hlens HTl
        have hkI : ¬ (k : Int) < (k : Int) := by omega
        have b10 := hbX
        obtain ⟨w10, hwq⟩ : ∃ x : World, x = wr := ⟨_, rfl⟩
        subst hwq
        have j10 : Below w9.heap.size w9 w10 := by (repeat (first | exact Below.refl _ _ | refine Below.alloc ?_ (by first | omega | (simp; done) | (simp; omega)) _ | refine Below.drew ?_ | refine Below.setCell ?_ (by first | omega | (simp; done) | (simp; omega)) _ | refine Below.trans ?_ (Below.mono (by assumption) (by first | omega | (simp; done) | (simp; omega)))))
        have t10 : Below w.heap.size w w10 := t9.trans (j10.mono t9.size)
        replace hw := hw.below j10
        replace hx := hx.below j10
        replace ht := ht.below j10
        replace hd := hd.below j10
        replace q0 := below_cell j10 q0
        replace p0 := below_cell j10 p0
        replace p1 := below_cell j10 p1
        replace p2 := below_cell j10 p2
        replace p3 := below_cell j10 p3
        replace lq := Nat.lt_of_lt_of_le lq j10.size
        replace lp := Nat.lt_of_lt_of_le lp j10.size
        have f15a : ¬ (text.length : Int) < (l0 : Int) := by omega
        have f15b : ¬ (h0 : Int) < (text.length : Int) := by omega
        have f15c : ¬ (5 : Int) < (h0 : Int) := by omega
        go_upto_region 19 with fail
        obtain ⟨vsD, hvD, hsD, h1D⟩ := dis_vals hd
        obtain ⟨X1, hX1⟩ : ∃ z : World, z = w10.alloc (.cells #[.int .i64 (n : Int), .int .i64 rate, .int .i64 keeps, .slice (some ⟨bd, od, none⟩) ds.length cd] 29) := ⟨_, rfl⟩
        have bX1 : Below w10.heap.size w10 X1 := by rw [hX1]; exact (Below.refl _ _).alloc (Nat.le_refl _) _
        have cX1 : Cells X1 w10.heap.size #[.int .i64 (n : Int), .int .i64 rate, .int .i64 keeps, .slice (some ⟨bd, od, none⟩) ds.length cd] 29 := by rw [hX1]; exact Cells.new _ _ _
        have zX1 : w10.heap.size < X1.heap.size := cX1.lt
        have lvD : vsD.length = ds.length * 4 := hvD.1
        rw [← hX1]
        clear hX1
        have p3X := below_cell bX1 p3
        have lpX := Nat.lt_of_lt_of_le lp bX1.size
        have baX : Below X1.heap.size X1 (X1.alloc (.cells #[] 48)) := (Below.refl _ _).alloc (Nat.le_refl _) _
        have hsX : SrcAt (X1.alloc (.cells #[] 48)) (some ⟨bd, od, none⟩) vsD := fun j u hu => by
          obtain ⟨b, off, ha, hc⟩ := hsD j u hu
          exact ⟨b, off, ha, below_cell baX (below_cell bX1 hc)⟩
        go_wp2_with (at_builtin; refine wpList_app elDisR rfl _ _ rfl X1.heap.size _ 0 0 [] rfl (OwnL.lit #[] (Nat.le_refl _) (by decide) rfl) (some ⟨bd, od, none⟩) ds.length cd vsD rfl (fun e => by cases e) lvD hsX h1D (by unfold maxLen; omega) (by omega) baX.size ?_)
        intro a1 c1 Y hown hbY
        have bY1 := baX.trans hbY
        have cXY := cX1.below bY1
        have fXY := cXY.frozen 3
        have lXY := cXY.lt
        have kXY := cXY.cell 3
        simp at kXY
        obtain ⟨g, rfl, hg1, hg2, _, _, hgf, hgc⟩ : ∃ g, a1 = some ⟨g, 0, none⟩ ∧ X1.heap.size ≤ g ∧ g < Y.heap.size ∧ ds.length ≤ c1 ∧ c1 ≤ maxLen ∧ (∀ j, Y.frozen? ⟨g, j, none⟩ = false) ∧ (∀ j u, vsD[j]? = some u → Y.cell? ⟨g, j, none⟩ = some u) := by
          rcases hown.form with ⟨_, _, h, _⟩ | h
          · omega
          · exact h
        clear hsX baX hgf hgc p3X
        go_upto_region 20 with fail
        obtain ⟨X2, hX2⟩ : ∃ z : World, z = Y.setCell ⟨w10.heap.size, 3, none⟩ (.slice (some ⟨g, 0, none⟩) ds.length c1) := ⟨_, rfl⟩
        have hlX : w10.heap.size < g := by omega
        have hown2 : OwnL 48 4 X1.heap.size X2 (some ⟨g, 0, none⟩) c1 ds.length vsD := by rw [hX2]; exact own_other hown (show w10.heap.size ≠ g by omega) _
        have cX2 : Cells X2 w10.heap.size #[.int .i64 (n : Int), .int .i64 rate, .int .i64 keeps, .slice (some ⟨g, 0, none⟩) ds.length c1] 29 := by rw [hX2]; exact cXY.set 3 _
        have bX2 : Below w10.heap.size w10 X2 := by rw [hX2]; exact (bX1.trans (bY1.mono bX1.size)).setCell (p := ⟨w10.heap.size, 3, none⟩) (Nat.le_refl _) _
        have zX2 : g < X2.heap.size := by rw [hX2]; simpa [World.setCell] using hg2
        rw [← hX2]
        clear hX2 hown cXY cX1 bX1 bY1 hbY fXY lXY kXY lpX hg2
        obtain ⟨hgf, hgc⟩ : (∀ j, X2.frozen? ⟨g, j, none⟩ = false) ∧ (∀ j u, vsD[j]? = some u → X2.cell? ⟨g, j, none⟩ = some u) := by
          rcases hown2.form with ⟨h, _⟩ | ⟨g', h, _, _, _, _, h5, h6⟩
          · cases h
          · cases h; exact ⟨h5, h6⟩
        have hvk := hvD.2 i hi
        obtain ⟨al, cl, v0, v1, v2, v3, hpl⟩ := hvk
        have s1 := hgf (i * 4 + 1)
        have s2 := hgf (i * 4 + 1 + 1)
        have s3 := hgc _ _ v1
        have s4 : X2.cell? ⟨g, i * 4 + 1 + 1, none⟩ = some (.int .i64 ds[i].hi) := hgc _ _ v2
        have s5 := cX2.cell 3
        simp at s5
        have s6 := cX2.lt
        go_upto_region 21 with fail
        obtain ⟨X3, hX3⟩ : ∃ z : World, z = (X2.setCell ⟨g, i * 4 + 1, none⟩ (.int .i64 (l0 : Int))).setCell ⟨g, i * 4 + 1 + 1, none⟩ (.int .i64 (h0 : Int)) := ⟨_, rfl⟩
        have own3 : OwnL 48 4 X1.heap.size X3 (some ⟨g, 0, none⟩) c1 ds.length ((vsD.set (i * 4 + 1) (.int .i64 (l0 : Int))).set (i * 4 + 2) (.int .i64 (h0 : Int))) := by
          rw [hX3]
          exact (hown2.setV (by omega) _).setV (j := i * 4 + 1 + 1) (by rw [List.length_set]; omega) _
        have hgX : w10.heap.size ≤ g := by omega
        have bX3 : Below w10.heap.size w10 X3 := by rw [hX3]; exact (bX2.setCell (p := ⟨g, i * 4 + 1, none⟩) hgX _).setCell (p := ⟨g, i * 4 + 1 + 1, none⟩) hgX _
        have cX3 : Cells X3 w10.heap.size #[.int .i64 (n : Int), .int .i64 rate, .int .i64 keeps, .slice (some ⟨g, 0, none⟩) ds.length c1] 29 := by rw [hX3]; exact (cX2.other (by omega) _ _).other (by omega) _ _
        have hvD3 := (hvD.words hi (l0 : Int) (h0 : Int)).below bX3
        have hdX := hvD3.dis own3
        have hz3 : X3.cell? ⟨g, i * 4 + 3, none⟩ = some (.slice al ds[i].passed.length cl) := by
          rcases own3.form with ⟨h, _⟩ | ⟨g', h, _, _, _, _, _, h6⟩
          · cases h
          · cases h
            refine h6 _ _ ?_
            rw [List.getElem?_set_ne (by omega), List.getElem?_set_ne (by omega)]
            exact v3
        have hpX := hpl.below bX3
        have y0 := cX3.cell 0
        have y1 := cX3.cell 1
        have y2 := cX3.cell 2
        have y3 := cX3.cell 3
        simp at y0 y1 y2 y3
        have ly := cX3.lt
        have lg : g < X3.heap.size := by rw [hX3]; simpa [World.setCell] using zX2
        have hcc1 : ds.length ≤ c1 := own3.fits.1
        rw [← hX3]
        clear hX3 own3 cX3 hvD3 hown2 cX2 bX2 s1 s2 s3 s4 s5 s6 hgf hgc v0 v1 v2 v3 hpl hvD hsD h1D lvD zX1 zX2 hlX
        obtain ⟨P, hP⟩ : ∃ P, ds[i].passed = P := ⟨_, rfl⟩
        rw [hP] at hz3 hpX
        obtain ⟨D2, hD2⟩ : ∃ D2, wordsAt ds i (l0 : Int) (h0 : Int) = D2 := ⟨_, rfl⟩
        have hn2 : D2.length = ds.length := by rw [← hD2, wordsAt_len]
        have hiD : i < D2.length := by omega
        have hDi : D2[i] = ⟨ds[i].payer, (l0 : Int), (h0 : Int), P⟩ := by
          subst hD2
          rw [wordsAt_self hi, ← hP]; rfl
        have hA2 : accErr ⟨(n : Int), rate, keeps, D2⟩ = 0 := by rw [← hD2]; exact words_acc H0.out hi (by omega) (by omega) (by omega)
        have H02 := Lib.hid hA2
        have SM2 : Hid (AccSmall ⟨(n : Int), rate, keeps, D2⟩) := Lib.hid (by rw [← hD2]; exact words_small SM.out hi _ _)
        rw [hD2] at hdX
        have G2 := good_of hA2
        simp only at G2
        obtain ⟨L, hL⟩ : ∃ L : Int, (text.length : Int) = L := ⟨_, rfl⟩
        obtain ⟨T, hT⟩ : ∃ T, (pkL D2 ws).set i L = T := ⟨_, rfl⟩
        have hTr : isTruth D2 T = true := by
          rw [← hT]
          refine truth_set (pk_truth (fun d h => (G2.w d h).2.1) ws) hiD ?_
          rw [hDi]
          simp only
          omega
        have hTl : T.length = D2.length := (isTruth_iff.1 hTr).1
        obtain ⟨O, hO⟩ : ∃ O, bdOut ⟨(n : Int), rate, keeps, D2⟩ = O := ⟨_, rfl⟩
        have hOd : bdL rate keeps D2 n = O := by rw [← hO, bdOut, if_pos hA2]; simp
        obtain ⟨B, hBd⟩ : ∃ B, balL rate keeps D2 T n = B := ⟨_, rfl⟩
        have hBa : balOut ⟨(n : Int), rate, keeps, D2⟩ T = B := by rw [balOut, if_pos ⟨hA2, hTr⟩]; simpa using hBd
        have hBe : balErr ⟨(n : Int), rate, keeps, D2⟩ T = 0 := by rw [balErr, if_neg (by simpa using hA2), hTr]; rfl
        have hBl : B.length = n := by rw [← hBd, balL_len]
        have hOl : O.length = n := by rw [← hOd, bdL_len]
        have hBO : ∀ k (h : k < O.length), O[k].1 ≤ B.getD k 0 ∧ B.getD k 0 ≤ O[k].2 := by
          intro k h
          subst hOd
          rw [bdL_at, ← hBd, balL_at _ _ _ _ (by rw [bdL_len] at h; exact h)]
          exact bal_in G2 hTr _
        obtain ⟨S, hS⟩ : ∃ S, sharesF rate keeps P.length L = S := ⟨_, rfl⟩
        have hSl : S.length = P.length := by rw [← hS, sharesF_len]
        have hgD : D2.getD ((i : Int)).toNat ⟨0, 0, 0, []⟩ = D2[i] := by rw [Int.toNat_natCast, List.getD_eq_getElem?_getD, List.getElem?_eq_getElem hiD]; rfl
        have hSi : sharesIn ⟨(n : Int), rate, keeps, D2⟩ (i : Int) L = true := by
          unfold sharesIn
          rw [hgD, hDi, Bool.and_eq_true, inR_iff, inR_iff]
          simp only
          omega
        have hSo : sharesOut ⟨(n : Int), rate, keeps, D2⟩ (i : Int) L = S := by
          rw [sharesOut, if_pos ⟨hA2, hSi⟩, shF]
          simp only
          rw [hgD, hDi]
          exact hS
        have hSe : sharesErr ⟨(n : Int), rate, keeps, D2⟩ (i : Int) L = 0 := by rw [sharesErr, if_neg (by simpa using hA2), if_pos hSi]
        have hPp := G2.p _ (List.getElem_mem hiD)
        rw [hDi] at hPp
        simp only at hPp
        have HT := Lib.hid hT
        have HO := Lib.hid hO
        have HBa := Lib.hid hBa
        have HBe := Lib.hid hBe
        have HBl := Lib.hid hBl
        have HOl := Lib.hid hOl
        have HBO := Lib.hid hBO
        have HS := Lib.hid hS
        have HSl := Lib.hid hSl
        have HSo := Lib.hid hSo
        have HSe := Lib.hid hSe
        have HDi := Lib.hid hDi
        have HL := Lib.hid hL
        have HSo2 : Hid (sharesOut ⟨(n : Int), rate, keeps, D2⟩ (i : Int) (text.length : Int) = S) := Lib.hid (by rw [hL]; exact hSo)
        have HSe2 : Hid (sharesErr ⟨(n : Int), rate, keeps, D2⟩ (i : Int) (text.length : Int) = 0) := Lib.hid (by rw [hL]; exact hSe)
        have HTl := Lib.hid hTl
        have hBn : ((B.length : Int) != (n : Int)) = false := by simp [hBl]
        have hOn : ((O.length : Int) != (n : Int)) = false := by simp [hOl]
        have hSn : ((S.length : Int) != (P.length : Int)) = false := by simp [hSl]
        have hn7 : n ≤ 7 := by omega
        have lT : T.length ≤ 1000 := by omega
        have lB' : B.length ≤ 1000 := by omega
        have lO' : O.length ≤ 1000 := by omega
        have hL5 : 1 ≤ L ∧ L ≤ 5 := by omega
        have hiD2 : (i : Int) < (D2.length : Int) := by omega
        have hcD : D2.length ≤ c1 := by omega
        have hlo5 : (l0 : Int) ≤ L ∧ L ≤ (h0 : Int) := by omega
        rw [← hn2] at y3 ⊢
        rw [hL]
        have Hn2 := Lib.hid hn2
        clear hn2 hT hO hOd hBd hBa hBe hBl hOl hBO hS hSl hgD hSi hSo hSe hDi hL hTl hTr hP hA2 G2 hD2
        have b11 := bX3
        obtain ⟨w11, hwq⟩ : ∃ x : World, x = X3 := ⟨_, rfl⟩
        subst hwq
        have j11 : Below w10.heap.size w10 w11 := by (repeat (first | exact Below.refl _ _ | refine Below.alloc ?_ (by first | omega | (simp; done) | (simp; omega)) _ | refine Below.drew ?_ | refine Below.setCell ?_ (by first | omega | (simp; done) | (simp; omega)) _ | refine Below.trans ?_ (Below.mono (by assumption) (by first | omega | (simp; done) | (simp; omega)))))
        have t11 : Below w.heap.size w w11 := t10.trans (j11.mono t10.size)
        replace hw := hw.below j11
        replace hx := hx.below j11
        replace ht := ht.below j11
        replace hd := hd.below j11
        replace q0 := below_cell j11 q0
        replace p0 := below_cell j11 p0
        replace p1 := below_cell j11 p1
        replace p2 := below_cell j11 p2
        replace p3 := below_cell j11 p3
        replace lq := Nat.lt_of_lt_of_le lq j11.size
        replace lp := Nat.lt_of_lt_of_le lp j11.size
        go_upto_region 22 with (go_at_call 14; refine (picked_own (n : Int) rate keeps D2 (some ⟨g, 0, none⟩) c1 aw ws cw _ hdX H02.out hw HU.out mw).mono ?_; rintro _ Y4 ⟨⟨aP, cP, rfl, oP⟩, bP⟩)
        obtain ⟨gP, rfl, hgP, lgP, _, _, fP, kP⟩ : ∃ gP, aP = some ⟨gP, 0, none⟩ ∧ w11.heap.size ≤ gP ∧ gP < Y4.heap.size ∧ D2.length ≤ cP ∧ cP ≤ maxLen ∧ (∀ j, Y4.frozen? ⟨gP, j, none⟩ = false) ∧ (∀ j u, ((pkL D2 ws).map (Value.int .i64))[j]? = some u → Y4.cell? ⟨gP, j, none⟩ = some u) := by
          rcases oP.form with ⟨_, _, h, _⟩ | h
          · omega
          · exact h
        have fPi := fP i
        have lpk : (pkL D2 ws).length = D2.length := pkL_len _ _
        obtain ⟨up, hup⟩ : ∃ u, ((pkL D2 ws).map (Value.int .i64))[i]? = some u := ⟨_, List.getElem?_eq_getElem (by rw [List.length_map]; omega)⟩
        have kPi := kP i up hup
        have Hpk := Lib.hid lpk
        clear lpk hup kP fP
        go_upto_region 23 with fail
        obtain ⟨X4, hX4⟩ : ∃ z : World, z = Y4.setCell ⟨gP, i, none⟩ (.int .i64 (text.length : Int)) := ⟨_, rfl⟩
        have bX4 : Below w11.heap.size w11 X4 := by rw [hX4]; exact bP.setCell (p := ⟨gP, i, none⟩) hgP _
        have oT4 : OwnL 3 1 w11.heap.size X4 (some ⟨gP, 0, none⟩) cP D2.length (T.map (Value.int .i64)) := by
          have h := oP.setV (j := i) (by rw [List.length_map, Hpk.out]; exact hiD) (.int .i64 (text.length : Int))
          rw [← HT.out, List.map_set, hX4, ← HL.out]
          exact h
        have iT := oT4.ints.1
        rw [← hX4]
        clear hX4 oT4 oP bP fPi kPi hgP lgP
        
        have b12 := bX4
        obtain ⟨w12, hwq⟩ : ∃ x : World, x = X4 := ⟨_, rfl⟩
        subst hwq
        have j12 : Below w11.heap.size w11 w12 := by (repeat (first | exact Below.refl _ _ | refine Below.alloc ?_ (by first | omega | (simp; done) | (simp; omega)) _ | refine Below.drew ?_ | refine Below.setCell ?_ (by first | omega | (simp; done) | (simp; omega)) _ | refine Below.trans ?_ (Below.mono (by assumption) (by first | omega | (simp; done) | (simp; omega)))))
        have t12 : Below w.heap.size w w12 := t11.trans (j12.mono t11.size)
        replace hw := hw.below j12
        replace hx := hx.below j12
        replace ht := ht.below j12
        replace hd := hd.below j12
        replace q0 := below_cell j12 q0
        replace p0 := below_cell j12 p0
        replace p1 := below_cell j12 p1
        replace p2 := below_cell j12 p2
        replace p3 := below_cell j12 p3
        replace lq := Nat.lt_of_lt_of_le lq j12.size
        replace lp := Nat.lt_of_lt_of_le lp j12.size
        replace hdX := hdX.below j12
        replace hpX := hpX.below j12
        replace y0 := below_cell j12 y0
        replace y1 := below_cell j12 y1
        replace y2 := below_cell j12 y2
        replace y3 := below_cell j12 y3
        replace hz3 := below_cell j12 hz3
        replace ly := Nat.lt_of_lt_of_le ly j12.size
        replace lg := Nat.lt_of_lt_of_le lg j12.size
        go_wp2_with fail
        go_at_call 16
        refine (account_eq (n : Int) rate keeps D2 (some ⟨g, 0, none⟩) c1 _ hdX SM2).mono ?_
        rintro e w13 ⟨⟨aX, cX, rfl, dX⟩, b13⟩
        have j13 : Below w12.heap.size w12 w13 := by (repeat (first | exact Below.refl _ _ | refine Below.alloc ?_ (by first | omega | (simp; done) | (simp; omega)) _ | refine Below.drew ?_ | refine Below.setCell ?_ (by first | omega | (simp; done) | (simp; omega)) _ | refine Below.trans ?_ (Below.mono (by assumption) (by first | omega | (simp; done) | (simp; omega)))))
        have t13 : Below w.heap.size w w13 := t12.trans (j13.mono t12.size)
        replace hw := hw.below j13
        replace hx := hx.below j13
        replace ht := ht.below j13
        replace hd := hd.below j13
        replace q0 := below_cell j13 q0
        replace p0 := below_cell j13 p0
        replace p1 := below_cell j13 p1
        replace p2 := below_cell j13 p2
        replace p3 := below_cell j13 p3
        replace lq := Nat.lt_of_lt_of_le lq j13.size
        replace lp := Nat.lt_of_lt_of_le lp j13.size
        replace hdX := hdX.below j13
        replace hpX := hpX.below j13
        replace y0 := below_cell j13 y0
        replace y1 := below_cell j13 y1
        replace y2 := below_cell j13 y2
        replace y3 := below_cell j13 y3
        replace hz3 := below_cell j13 hz3
        replace ly := Nat.lt_of_lt_of_le ly j13.size
        replace lg := Nat.lt_of_lt_of_le lg j13.size
        replace iT := iT.below j13
        go_wp2_with fail
        go_at_call 15
        refine (bounds_eq (n : Int) rate keeps D2 aX cX _ O H02 HO dX SM2).mono ?_
        rintro e w14 ⟨⟨aO, cO, rfl, iO⟩, b14⟩
        have j14 : Below w13.heap.size w13 w14 := by (repeat (first | exact Below.refl _ _ | refine Below.alloc ?_ (by first | omega | (simp; done) | (simp; omega)) _ | refine Below.drew ?_ | refine Below.setCell ?_ (by first | omega | (simp; done) | (simp; omega)) _ | refine Below.trans ?_ (Below.mono (by assumption) (by first | omega | (simp; done) | (simp; omega)))))
        have t14 : Below w.heap.size w w14 := t13.trans (j14.mono t13.size)
        replace hw := hw.below j14
        replace hx := hx.below j14
        replace ht := ht.below j14
        replace hd := hd.below j14
        replace q0 := below_cell j14 q0
        replace p0 := below_cell j14 p0
        replace p1 := below_cell j14 p1
        replace p2 := below_cell j14 p2
        replace p3 := below_cell j14 p3
        replace lq := Nat.lt_of_lt_of_le lq j14.size
        replace lp := Nat.lt_of_lt_of_le lp j14.size
        replace hdX := hdX.below j14
        replace hpX := hpX.below j14
        replace y0 := below_cell j14 y0
        replace y1 := below_cell j14 y1
        replace y2 := below_cell j14 y2
        replace y3 := below_cell j14 y3
        replace hz3 := below_cell j14 hz3
        replace ly := Nat.lt_of_lt_of_le ly j14.size
        replace lg := Nat.lt_of_lt_of_le lg j14.size
        replace iT := iT.below j14
        replace dX := dX.below j14
        clear dX
        go_wp2_with fail
        go_at_call 16
        refine (account_eq (n : Int) rate keeps D2 (some ⟨g, 0, none⟩) c1 _ hdX SM2).mono ?_
        rintro e w15 ⟨⟨aY, cY, rfl, dY⟩, b15⟩
        have j15 : Below w14.heap.size w14 w15 := by (repeat (first | exact Below.refl _ _ | refine Below.alloc ?_ (by first | omega | (simp; done) | (simp; omega)) _ | refine Below.drew ?_ | refine Below.setCell ?_ (by first | omega | (simp; done) | (simp; omega)) _ | refine Below.trans ?_ (Below.mono (by assumption) (by first | omega | (simp; done) | (simp; omega)))))
        have t15 : Below w.heap.size w w15 := t14.trans (j15.mono t14.size)
        replace hw := hw.below j15
        replace hx := hx.below j15
        replace ht := ht.below j15
        replace hd := hd.below j15
        replace q0 := below_cell j15 q0
        replace p0 := below_cell j15 p0
        replace p1 := below_cell j15 p1
        replace p2 := below_cell j15 p2
        replace p3 := below_cell j15 p3
        replace lq := Nat.lt_of_lt_of_le lq j15.size
        replace lp := Nat.lt_of_lt_of_le lp j15.size
        replace hdX := hdX.below j15
        replace hpX := hpX.below j15
        replace y0 := below_cell j15 y0
        replace y1 := below_cell j15 y1
        replace y2 := below_cell j15 y2
        replace y3 := below_cell j15 y3
        replace hz3 := below_cell j15 hz3
        replace ly := Nat.lt_of_lt_of_le ly j15.size
        replace lg := Nat.lt_of_lt_of_le lg j15.size
        replace iT := iT.below j15
        replace iO := iO.below j15
        have hTD : T.length = D2.length := HTl.out
        have HTD := Lib.hid hTD
        clear hTD
        have sT : SrcAt w15 (some ⟨gP, 0, none⟩) (T.map (Value.int .i64)) := SrcAt.ints iT
        have baT : Below w15.heap.size w15 (w15.alloc (.cells #[] 3)) := (Below.refl _ _).alloc (Nat.le_refl _) _
        have sT2 : SrcAt (w15.alloc (.cells #[] 3)) (some ⟨gP, 0, none⟩) (T.map (Value.int .i64)) := fun j u hu => by
          obtain ⟨b, off, ha, hc⟩ := sT j u hu
          exact ⟨b, off, ha, below_cell baT hc⟩
        have lTm : (T.map (Value.int .i64)).length = D2.length * 1 := by rw [List.length_map, HTD.out, Nat.mul_one]
        have oTm : ∀ u ∈ T.map (Value.int .i64), u.oneCell' = true := fun u hu => by
          obtain ⟨z, _, rfl⟩ := List.mem_map.1 hu; rfl
        have lD7 : D2.length ≤ 7 := by have := HTD.out; have := Hn2.out; omega
        go_wp2_with (first | (at_builtin; refine wpList_app elInt rfl _ _ rfl w15.heap.size _ 0 0 [] rfl (OwnL.lit #[] (Nat.le_refl _) (by decide) rfl) (some ⟨gP, 0, none⟩) D2.length cP (T.map (Value.int .i64)) rfl (fun e => by cases e) lTm sT2 oTm (by unfold maxLen; omega) (by omega) baT.size ?_) | fail)
        intro aB cB YB oB bB
        have bYB := baT.trans bB
        have iTB := oB.ints.1
        clear sT sT2 baT lTm oTm oB bB
        have b16 := bYB
        obtain ⟨w16, hwq⟩ : ∃ x : World, x = YB := ⟨_, rfl⟩
        subst hwq
        have j16 : Below w15.heap.size w15 w16 := by (repeat (first | exact Below.refl _ _ | refine Below.alloc ?_ (by first | omega | (simp; done) | (simp; omega)) _ | refine Below.drew ?_ | refine Below.setCell ?_ (by first | omega | (simp; done) | (simp; omega)) _ | refine Below.trans ?_ (Below.mono (by assumption) (by first | omega | (simp; done) | (simp; omega)))))
        have t16 : Below w.heap.size w w16 := t15.trans (j16.mono t15.size)
        replace hw := hw.below j16
        replace hx := hx.below j16
        replace ht := ht.below j16
        replace hd := hd.below j16
        replace q0 := below_cell j16 q0
        replace p0 := below_cell j16 p0
        replace p1 := below_cell j16 p1
        replace p2 := below_cell j16 p2
        replace p3 := below_cell j16 p3
        replace lq := Nat.lt_of_lt_of_le lq j16.size
        replace lp := Nat.lt_of_lt_of_le lp j16.size
        replace hdX := hdX.below j16
        replace hpX := hpX.below j16
        replace y0 := below_cell j16 y0
        replace y1 := below_cell j16 y1
        replace y2 := below_cell j16 y2
        replace y3 := below_cell j16 y3
        replace hz3 := below_cell j16 hz3
        replace ly := Nat.lt_of_lt_of_le ly j16.size
        replace lg := Nat.lt_of_lt_of_le lg j16.size
        replace iT := iT.below j16
        replace iO := iO.below j16
        replace dY := dY.below j16
        have hcnt : D2.length = T.length := HTD.out.symm
        have Hcnt := Lib.hid hcnt
        clear hcnt
        go_wp2_with fail
        go_at_call 17
        refine (bal_eq' (n : Int) rate keeps D2 aY cY aB T cB D2.length _ B 0 Hcnt H02 HBa HBe dY SM2 iTB lT).mono ?_
        rintro e w17 ⟨⟨aQ, cQ, rfl, iB⟩, b17⟩
        have j17 : Below w16.heap.size w16 w17 := by (repeat (first | exact Below.refl _ _ | refine Below.alloc ?_ (by first | omega | (simp; done) | (simp; omega)) _ | refine Below.drew ?_ | refine Below.setCell ?_ (by first | omega | (simp; done) | (simp; omega)) _ | refine Below.trans ?_ (Below.mono (by assumption) (by first | omega | (simp; done) | (simp; omega)))))
        have t17 : Below w.heap.size w w17 := t16.trans (j17.mono t16.size)
        replace hw := hw.below j17
        replace hx := hx.below j17
        replace ht := ht.below j17
        replace hd := hd.below j17
        replace q0 := below_cell j17 q0
        replace p0 := below_cell j17 p0
        replace p1 := below_cell j17 p1
        replace p2 := below_cell j17 p2
        replace p3 := below_cell j17 p3
        replace lq := Nat.lt_of_lt_of_le lq j17.size
        replace lp := Nat.lt_of_lt_of_le lp j17.size
        replace hdX := hdX.below j17
        replace hpX := hpX.below j17
        replace y0 := below_cell j17 y0
        replace y1 := below_cell j17 y1
        replace y2 := below_cell j17 y2
        replace y3 := below_cell j17 y3
        replace hz3 := below_cell j17 hz3
        replace ly := Nat.lt_of_lt_of_le ly j17.size
        replace lg := Nat.lt_of_lt_of_le lg j17.size
        replace iT := iT.below j17
        replace iO := iO.below j17
        replace dY := dY.below j17
        replace iTB := iTB.below j17
        clear dY iTB iT
        go_wp2_with fail
        go_at_call 16
        refine (account_eq (n : Int) rate keeps D2 (some ⟨g, 0, none⟩) c1 _ hdX SM2).mono ?_
        rintro e w18 ⟨⟨aZ, cZ, rfl, dZ⟩, b18⟩
        have j18 : Below w17.heap.size w17 w18 := by (repeat (first | exact Below.refl _ _ | refine Below.alloc ?_ (by first | omega | (simp; done) | (simp; omega)) _ | refine Below.drew ?_ | refine Below.setCell ?_ (by first | omega | (simp; done) | (simp; omega)) _ | refine Below.trans ?_ (Below.mono (by assumption) (by first | omega | (simp; done) | (simp; omega)))))
        have t18 : Below w.heap.size w w18 := t17.trans (j18.mono t17.size)
        replace hw := hw.below j18
        replace hx := hx.below j18
        replace ht := ht.below j18
        replace hd := hd.below j18
        replace q0 := below_cell j18 q0
        replace p0 := below_cell j18 p0
        replace p1 := below_cell j18 p1
        replace p2 := below_cell j18 p2
        replace p3 := below_cell j18 p3
        replace lq := Nat.lt_of_lt_of_le lq j18.size
        replace lp := Nat.lt_of_lt_of_le lp j18.size
        replace hdX := hdX.below j18
        replace hpX := hpX.below j18
        replace y0 := below_cell j18 y0
        replace y1 := below_cell j18 y1
        replace y2 := below_cell j18 y2
        replace y3 := below_cell j18 y3
        replace hz3 := below_cell j18 hz3
        replace ly := Nat.lt_of_lt_of_le ly j18.size
        replace lg := Nat.lt_of_lt_of_le lg j18.size
        replace iO := iO.below j18
        replace iB := iB.below j18
        go_wp2_with fail
        go_at_call 18
        refine (shares_eq (n : Int) rate keeps D2 aZ cZ _ (i : Int) (text.length : Int) S 0 H02 HSo2 HSe2 dZ SM2).mono ?_
        rintro e w19 ⟨⟨aS, cS, rfl, iS⟩, b19⟩
        have j19 : Below w18.heap.size w18 w19 := by (repeat (first | exact Below.refl _ _ | refine Below.alloc ?_ (by first | omega | (simp; done) | (simp; omega)) _ | refine Below.drew ?_ | refine Below.setCell ?_ (by first | omega | (simp; done) | (simp; omega)) _ | refine Below.trans ?_ (Below.mono (by assumption) (by first | omega | (simp; done) | (simp; omega)))))
        have t19 : Below w.heap.size w w19 := t18.trans (j19.mono t18.size)
        replace hw := hw.below j19
        replace hx := hx.below j19
        replace ht := ht.below j19
        replace hd := hd.below j19
        replace q0 := below_cell j19 q0
        replace p0 := below_cell j19 p0
        replace p1 := below_cell j19 p1
        replace p2 := below_cell j19 p2
        replace p3 := below_cell j19 p3
        replace lq := Nat.lt_of_lt_of_le lq j19.size
        replace lp := Nat.lt_of_lt_of_le lp j19.size
        replace hdX := hdX.below j19
        replace hpX := hpX.below j19
        replace y0 := below_cell j19 y0
        replace y1 := below_cell j19 y1
        replace y2 := below_cell j19 y2
        replace y3 := below_cell j19 y3
        replace hz3 := below_cell j19 hz3
        replace ly := Nat.lt_of_lt_of_le ly j19.size
        replace lg := Nat.lt_of_lt_of_le lg j19.size
        replace iO := iO.below j19
        replace iB := iB.below j19
        replace dZ := dZ.below j19
        clear dZ
        go_upto_region 30 with fail
        go_loopw [31] (fun j X => ∃ q : Nat, q ≤ n ∧ j = .int .i64 q ∧ Below w19.heap.size w19 X) (fun u _ => n - (intOf u).toNat)
        case atStart => exact ⟨0, by omega, rfl, Below.refl _ _⟩
        case round =>
          obtain ⟨q, hq, rfl, hbX⟩ := hrel
          rename World => X
          have yX := below_cell hbX y0
          have lyX := Nat.lt_of_lt_of_le ly hbX.size
          by_cases hlt : q < n
          · have hkI : (q : Int) < (n : Int) := by omega
            have hk0 : (0 : Int) ≤ (q : Int) := by omega
            have hkO : q < O.length := by rw [HOl.out]; exact hlt
            have hkB : q < B.length := by rw [HBl.out]; exact hlt
            have hkOI : (q : Int) < (O.length : Int) := by omega
            have hkBI : (q : Int) < (B.length : Int) := by omega
            have hbo := HBO.out q hkO
            obtain ⟨bO, oO, rfl, lO, e1, e2⟩ := (iO.below hbX) q hkO
            obtain ⟨bB, oB, rfl, lBB, c3⟩ := (iB.below hbX) q hkB
            obtain ⟨lo, hlo⟩ : ∃ z, O[q].1 = z := ⟨_, rfl⟩
            obtain ⟨mo, hmo⟩ : ∃ z, O[q].2 = z := ⟨_, rfl⟩
            obtain ⟨x, hx2⟩ : ∃ z, B.getD q 0 = z := ⟨_, rfl⟩
            rw [hlo] at e1 hbo
            rw [hmo] at e2 hbo
            rw [hx2] at c3 hbo
            have f1 : decide (x < lo) = false := by simpa using hbo.1
            have f2' : decide (mo < x) = false := by simpa using hbo.2
            clear hlo hmo hx2 hbo
            go_upto_region 32 with fail
            (refine wp_region_ext 22 (by kernel_rfl) (by kernel_rfl) ?_; simp only [List.take_succ_cons, List.take_zero, List.drop_succ_cons, List.drop_zero]; (repeat (go_big_quiet_step ((fail)))); refine wpQuiet_nil ?_; rintro _ ⟨ex, rfl⟩; have hex := ex.below; have hexz := ex.size; (try simp at hexz); (try (have hy0 : w.heap.size < ex.to.heap.size := by omega)); (try (have hy1 : w.heap.size + 1 < ex.to.heap.size := by omega)); (try (have hy2 : w.heap.size + 2 < ex.to.heap.size := by omega)))
            go_wp2
            go_roundw
            case rel => exact ⟨q + 1, by omega, by go_num, hbX.trans (hex.mono hbX.size)⟩
            case measure => simp [intOf]; omega
          · obtain rfl : n = q := by omega
            have hkI : ¬ (n : Int) < (n : Int) := by omega
            clear iO iB HBO
            have b20 := hbX
            obtain ⟨w20, hwq⟩ : ∃ x : World, x = X := ⟨_, rfl⟩
            subst hwq
            have j20 : Below w19.heap.size w19 w20 := by (repeat (first | exact Below.refl _ _ | refine Below.alloc ?_ (by first | omega | (simp; done) | (simp; omega)) _ | refine Below.drew ?_ | refine Below.setCell ?_ (by first | omega | (simp; done) | (simp; omega)) _ | refine Below.trans ?_ (Below.mono (by assumption) (by first | omega | (simp; done) | (simp; omega)))))
            have t20 : Below w.heap.size w w20 := t19.trans (j20.mono t19.size)
            replace hw := hw.below j20
            replace hx := hx.below j20
            replace ht := ht.below j20
            replace hd := hd.below j20
            replace q0 := below_cell j20 q0
            replace p0 := below_cell j20 p0
            replace p1 := below_cell j20 p1
            replace p2 := below_cell j20 p2
            replace p3 := below_cell j20 p3
            replace lq := Nat.lt_of_lt_of_le lq j20.size
            replace lp := Nat.lt_of_lt_of_le lp j20.size
            replace hdX := hdX.below j20
            replace hpX := hpX.below j20
            replace y0 := below_cell j20 y0
            replace y1 := below_cell j20 y1
            replace y2 := below_cell j20 y2
            replace y3 := below_cell j20 y3
            replace hz3 := below_cell j20 hz3
            replace ly := Nat.lt_of_lt_of_le ly j20.size
            replace lg := Nat.lt_of_lt_of_le lg j20.size
            replace iS := iS.below j20
            obtain ⟨p5, hp5⟩ : ∃ z, P.length = z := ⟨_, rfl⟩
            have Hp5 := Lib.hid hp5
            have hp5b : p5 ≤ 5 := by omega
            have hs5 : Hid (S.length = p5) := Lib.hid (by rw [HSl.out, hp5])
            rw [hp5]
            clear hp5
            go_upto_region 35 with fail
            go_loopw [32] (fun j X => ∃ m : Nat, m ≤ p5 ∧ j = .int .i64 m ∧ Below w20.heap.size w20 X) (fun u _ => p5 - (intOf u).toNat)
            case atStart => exact ⟨0, by omega, rfl, Below.refl _ _⟩
            case round =>
              obtain ⟨m, hm, rfl, hbX⟩ := hrel
              rename World => X
              by_cases hlt : m < p5
              · have hkI : (m : Int) < (p5 : Int) := by omega
                have hk0 : (0 : Int) ≤ (m : Int) := by omega
                have z0 := below_cell hbX y0
                have z1 := below_cell hbX y1
                have z2 := below_cell hbX y2
                have z3 := below_cell hbX y3
                have lz := Nat.lt_of_lt_of_le ly hbX.size
                have dX := hdX.below hbX
                have hmP : m < P.length := by rw [Hp5.out]; exact hlt
                have hmS : m < S.length := by rw [hs5.out]; exact hlt
                have hmSI : (m : Int) < (S.length : Int) := by omega
                obtain ⟨bQ, oQ, hbQ, lQ, e1⟩ := (hpX.at_.below hbX) m hmP
                obtain ⟨bS, oS, hbS, lS, e2⟩ := (iS.below hbX) m hmS
                obtain ⟨cs, hcs⟩ : ∃ z, P.getD m 0 = z := ⟨_, rfl⟩
                obtain ⟨cp, hcp⟩ : ∃ z, S.getD m 0 = z := ⟨_, rfl⟩
                rw [hcs] at e1
                subst hbQ
                subst hbS
                rw [hcp] at e2
                obtain ⟨F, hF⟩ : ∃ F, clF rate keeps D2[i] L m = F := ⟨_, rfl⟩
                have hxi : D2[i].lo ≤ L ∧ L ≤ D2[i].hi := by rw [HDi.out]; exact hlo5
                have hmem : L ∈ F := by rw [← hF]; exact (clF_mem hxi).2 rfl
                have hFl : F.length ≤ 5 := by
                  rw [← hF, clF]
                  refine Nat.le_trans (fitsL_le _ _ _ _ _ _) ?_
                  rw [HDi.out]
                  simp only
                  omega
                have Hk : Hid (∃ h : m < D2[i].passed.length, D2[i].passed[m] = cs) := Lib.hid (by
                  have e : D2[i].passed = P := by rw [HDi.out]
                  refine ⟨by rw [e]; exact hmP, ?_⟩
                  rw [← hcs, List.getD_eq_getElem?_getD, List.getElem?_eq_getElem hmP]
                  simp only [e, Option.getD_some])
                have Hp : Hid ((sharesF rate keeps D2[i].passed.length L).getD m 0 = cp) := Lib.hid (by
                  have e : D2[i].passed = P := by rw [HDi.out]
                  rw [e, HS.out]; exact hcp)
                have Hxi := Lib.hid hxi
                have HF := Lib.hid hF
                have Hmem := Lib.hid hmem
                have ac := fun W b => account_eq (n : Int) rate keeps D2 (some ⟨g, 0, none⟩) c1 W (dX.below b) SM2
                have wd := fun W (_ : Below X.heap.size X W) a c (h : DisAt W a D2) => words_t (n : Int) rate keeps D2 a c i m L cs cp F W H02 hiD Hk Hp Hxi HF h SM2
                clear hcs hcp hF hxi hmem
                go_upto_region 37 with fail
                (refine wp_region_seq 18 [] [] 301 [true, false, true, true, true, true, true, true, true, true, true, true, false, false, false, false, false, false] [AccW (n : Int) rate keeps D2, TupV F 0, TupV F 0, SlV F, IntV 0, SlV F, IntV 0] (by kernel_rfl) (by kernel_rfl) rfl (mono_cons (fun v w w' h hb => h.kept hb) (mono_cons (fun v w w' h hb => h.kept hb) (mono_cons (fun v w w' h hb => h.kept hb) (mono_cons (fun v w w' h hb => h.kept hb) (mono_cons (fun v w w' h hb => h.kept hb) (mono_cons (fun v w w' h hb => h.kept hb) (mono_cons (fun v w w' h hb => h.kept hb) mono_nil))))))) ?_; simp only [pickOps, List.filterMap_cons, List.filterMap_nil, List.getElem?_toArray, List.getElem?_cons_succ, List.getElem?_cons_zero]; (repeat (refine wpFl_step _ rfl (fun w => (by go_simp; rfl)) ?_)); refine wpFl_nil ?_; simp only [maskOps, dummy, Act.put, List.setIfInBounds_toArray, List.set_cons_zero, List.set_cons_succ, List.take_succ_cons, List.take_zero, List.drop_succ_cons, List.drop_zero]; (repeat (refine wpQB_step (fun K hK => ?_); go_simp; first | (refine hK _ ?_; clear hK K) | (apply Exists.intro; refine ⟨fun ex => ?_, hK _ ?_⟩; (fail); clear hK K))); refine wpQB_nil ?_; simp only [relObl2_t, relObl2_f, relObl2_n, under_c, under_n, relEnd_t, relEnd_f, relEnd_n, and_true, List.nil_append, List.cons_append])
                refine ⟨⟨?_, ?_, ?_, ?_, ?_, ?_, ?_⟩, ?_⟩
                · intro e
                  refine ⟨?_⟩
                  go_simp
                  refine (ac _ e.below).mono ?_
                  rintro _ _ ⟨⟨a, c, rfl, hA⟩, hb⟩
                  exact ⟨hb, a, c, rfl, hA⟩
                · intro e v1 h1
                  obtain ⟨a, c, rfl, hA⟩ := h1 (by kernel_rfl)
                  refine ⟨?_⟩
                  go_simp
                  refine (wd _ e.below a c hA).mono ?_
                  rintro _ _ ⟨⟨a, c, rfl, hA⟩, hb⟩
                  exact ⟨hb, a, c, rfl, hA⟩
                · intro e v1 _ v2 h2
                  refine ⟨?_⟩
                  go_simp
                  exact ⟨Below.refl _ _, h2 (by kernel_rfl)⟩
                · intro e v1 _ v2 _ v3 h3
                  obtain ⟨a, c, rfl, hA⟩ := h3 (by kernel_rfl)
                  refine ⟨?_⟩
                  go_simp
                  exact ⟨Below.refl _ _, a, c, rfl, hA⟩
                · intro e v1 _ v2 _ v3 h3 v4 _
                  obtain ⟨a, c, rfl, hA⟩ := h3 (by kernel_rfl)
                  refine ⟨?_⟩
                  go_simp
                  exact ⟨Below.refl _ _, rfl⟩
                · intro e v1 _ v2 _ v3 _ v4 h4 v5 _
                  refine ⟨?_⟩
                  go_simp
                  exact ⟨Below.refl _ _, h4 (by kernel_rfl)⟩
                · intro e v1 _ v2 _ v3 _ v4 _ v5 h5 v6 _
                  refine ⟨?_⟩
                  go_simp
                  exact ⟨Below.refl _ _, h5 (by kernel_rfl)⟩
                intro e
                rintro v1 - v2 - v3 - v4 - v5 - v6 hv v7 hv7
                refine ⟨?_⟩
                simp only [Act.put, List.setIfInBounds_toArray, List.set_cons_zero, List.set_cons_succ]
                have he5 := e.below
                obtain ⟨W5, hw5⟩ : ∃ x : World, x = e.to := ⟨_, rfl⟩
                rw [← hw5] at he5 hv hv7 ⊢
                clear hw5 e wd ac
                obtain ⟨aNM, cNM, rfl, iNM⟩ := hv
                obtain rfl : v7 = .int .i64 0 := hv7
                clear z0 z1 z2 z3 lz dX e1 e2 lQ lS Hk Hp Hxi HF
                have hLm : (text.length : Int) ∈ F := by rw [HL.out]; exact Hmem.out
                have HLm := Lib.hid hLm
                clear hLm
                go_upto_region 40 with fail
                go_loopw [35, 36] (fun h j Z => ∃ q : Nat, q ≤ F.length ∧ j = .int .i64 q ∧ h = .bool ((F.take q).any fun x => x == (text.length : Int)) ∧ Z = W5) (fun _ u _ => F.length - (intOf u).toNat)
                case atStart => exact ⟨0, by omega, rfl, rfl, rfl⟩
                case round =>
                  obtain ⟨q, hq, rfl, rfl, hZ⟩ := hrel
                  subst hZ
                  by_cases hql : q < F.length
                  · have hqI : (q : Int) < (F.length : Int) := by omega
                    have hq0 : (0 : Int) ≤ (q : Int) := by omega
                    obtain ⟨bW, oW, rfl, lW, e1⟩ := iNM q hql
                    have hany : (F.take (q + 1)).any (fun x => x == (text.length : Int)) = ((F.take q).any (fun x => x == (text.length : Int)) || (F.getD q 0 == (text.length : Int))) := by
                      rw [List.take_succ_eq_append_getElem hql, List.any_append, List.getD_eq_getElem?_getD, List.getElem?_eq_getElem hql]
                      simp
                    obtain ⟨x, hx2⟩ : ∃ x, F.getD q 0 = x := ⟨_, rfl⟩
                    rw [hx2] at e1 hany
                    obtain ⟨hb, hhb⟩ : ∃ hb, (F.take q).any (fun x => x == (text.length : Int)) = hb := ⟨_, rfl⟩
                    rw [hhb] at hany ⊢
                    have Hany := Lib.hid hany
                    clear hx2 hhb hany
                    cases hb
                    · go_wp2
                      go_roundw
                      case rel => exact ⟨q + 1, by omega, by go_num, by rw [Hany.out]; rfl, by trivial⟩
                      case measure => simp [intOf]; omega
                    · go_wp2
                      go_roundw
                      case rel => exact ⟨q + 1, by omega, by go_num, by rw [Hany.out]; rfl, by trivial⟩
                      case measure => simp [intOf]; omega
                  · obtain rfl : q = F.length := by omega
                    have hqI : ¬ (F.length : Int) < (F.length : Int) := by omega
                    have hany : (F.take F.length).any (fun x => x == (text.length : Int)) = true := by
                      rw [List.take_length]
                      exact List.any_eq_true.2 ⟨_, HLm.out, by simp⟩
                    rw [hany]
                    clear hany
                    go_wp2
                    go_roundw
                    case rel => exact ⟨m + 1, by omega, by go_num, hbX.trans (he5.mono hbX.size)⟩
                    case measure => simp [intOf]; omega
              · obtain rfl : p5 = m := by omega
                have hkI : ¬ (p5 : Int) < (p5 : Int) := by omega
                have b21 := hbX
                obtain ⟨w21, hwq⟩ : ∃ x : World, x = X := ⟨_, rfl⟩
                subst hwq
                have j21 : Below w20.heap.size w20 w21 := by (repeat (first | exact Below.refl _ _ | refine Below.alloc ?_ (by first | omega | (simp; done) | (simp; omega)) _ | refine Below.drew ?_ | refine Below.setCell ?_ (by first | omega | (simp; done) | (simp; omega)) _ | refine Below.trans ?_ (Below.mono (by assumption) (by first | omega | (simp; done) | (simp; omega)))))
                have t21 : Below w.heap.size w w21 := t20.trans (j21.mono t20.size)
                replace hw := hw.below j21
                replace hx := hx.below j21
                replace ht := ht.below j21
                replace hd := hd.below j21
                replace q0 := below_cell j21 q0
                replace p0 := below_cell j21 p0
                replace p1 := below_cell j21 p1
                replace p2 := below_cell j21 p2
                replace p3 := below_cell j21 p3
                replace lq := Nat.lt_of_lt_of_le lq j21.size
                replace lp := Nat.lt_of_lt_of_le lp j21.size
                replace hdX := hdX.below j21
                replace hpX := hpX.below j21
                replace y0 := below_cell j21 y0
                replace y1 := below_cell j21 y1
                replace y2 := below_cell j21 y2
                replace y3 := below_cell j21 y3
                replace hz3 := below_cell j21 hz3
                replace ly := Nat.lt_of_lt_of_le ly j21.size
                replace lg := Nat.lt_of_lt_of_le lg j21.size
                replace iS := iS.below j21
                go_wp2_with fail
                go_at_call 9
                refine (worded_any _).mono ?_
                rintro e w22 ⟨rfl, b22⟩
                have j22 : Below w21.heap.size w21 w22 := by (repeat (first | exact Below.refl _ _ | refine Below.alloc ?_ (by first | omega | (simp; done) | (simp; omega)) _ | refine Below.drew ?_ | refine Below.setCell ?_ (by first | omega | (simp; done) | (simp; omega)) _ | refine Below.trans ?_ (Below.mono (by assumption) (by first | omega | (simp; done) | (simp; omega)))))
                have t22 : Below w.heap.size w w22 := t21.trans (j22.mono t21.size)
                replace hw := hw.below j22
                replace hx := hx.below j22
                replace ht := ht.below j22
                replace hd := hd.below j22
                replace q0 := below_cell j22 q0
                replace p0 := below_cell j22 p0
                replace p1 := below_cell j22 p1
                replace p2 := below_cell j22 p2
                replace p3 := below_cell j22 p3
                replace lq := Nat.lt_of_lt_of_le lq j22.size
                replace lp := Nat.lt_of_lt_of_le lp j22.size
                replace hdX := hdX.below j22
                replace hpX := hpX.below j22
                replace y0 := below_cell j22 y0
                replace y1 := below_cell j22 y1
                replace y2 := below_cell j22 y2
                replace y3 := below_cell j22 y3
                replace hz3 := below_cell j22 hz3
                replace ly := Nat.lt_of_lt_of_le ly j22.size
                replace lg := Nat.lt_of_lt_of_le lg j22.size
                replace iS := iS.below j22
                go_wp2_with fail
                go_ret
                exact ⟨rfl, t22⟩
end Go.Proofs.Ytaphfibfjepceaa
