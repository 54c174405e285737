/- PayOrder: the walk -/
import Derived.Test.YtomjlmhnjgohdaaIa
import Derived.Test.YtomjlmhnjgohdaaIb
import Derived.Test.YtomjlmhnjgohdaaHd
namespace Go.Proofs.Ytomjlmhnjgohdaa
set_option linter.unusedVariables false
set_option linter.unusedSimpArgs false
set_option linter.unnecessarySimpa false
open Go.RowKit Go.Flow Go.Shelf

theorem info_rdisp : (Try.prog.info? 43).map (fun i => (i.zero, i.size, i.bytes)) = some (some (.agg #[.int .i64 0, .int .i64 0, .int .i64 0, .slice none 0 0]), 4, 48) := by kernel_rfl
theorem elRDisp : Elem Try.prog 22 43 (.agg #[.int .i64 0, .int .i64 0, .int .i64 0, .slice none 0 0]) 4 48 := ⟨Try.underlying22, info_parts info_rdisp, rfl, by decide⟩
theorem ints_drop {w : World} {b off : Nat} {l : List Int} (h : IntsAt w (some ⟨b, off, none⟩) l) (k : Nat) : IntsAt w (some ⟨b, off + k, none⟩) (l.drop k) := fun j hj => by
  rw [List.length_drop] at hj
  obtain ⟨b', o', e, hb, hc⟩ := h (k + j) (by omega)
  cases e
  refine ⟨b, off + k, rfl, hb, ?_⟩
  rw [Nat.add_assoc, hc]
  congr 2
  simp
section
variable {P : Program} {t E : TypeId} {z : Value} {size bytes : Nat}
/-- 'append' onto an own list at a step of a region that draws. -/
theorem step_app_some {ops : Array Oper} {o : Oper} {a : Act} {w : World} {K : Act → World → Prop} {Q : Exit → Act → World → Prop} {F : Prop} (hgd : o.guard = none) (el : Elem P t E z size bytes) (base : Nat) (s x : Operand) (ho : o.op = .call { callee := .builtin .append, args := #[s, x], argTypes := #[t, t] })
    (a0 : Option Addr) (n c0 : Nat) (xs : List Value) (hs : a.eval s = .slice a0 n c0) (hown : OwnL E size base w a0 c0 n xs) (ad : Addr) (m c : Nat) (news : List Value) (hx : a.eval x = .slice (some ad) m c)
    (hl : news.length = m * size) (hsrc : SrcAt w (some ad) news) (h1 : ∀ u ∈ news, u.oneCell' = true) (h63 : n + m ≤ maxLen) (hbytes : (n + m) * bytes ≤ 140737488355328) (hbase : base ≤ w.heap.size)
    (h : ∀ a' c' w', OwnL E size base w' a' c' (n + m) (xs ++ news) → Below base w w' → K (a.put o.dst (.slice a' (n + m) c')) w') :
    if Region.wanted o (yielded ops a.tmps) = true then Oper.wp P o a w K Q else F := by
  rw [if_pos (by simp [Region.wanted, hgd])]
  obtain ⟨i, hi, hz0, hz1, hz2⟩ := el.info
  have hnews : ∀ j u, news[j]? = some u → w.cell? (ad.add j) = some u := fun j u hu => by
    obtain ⟨b, off, ha, hc⟩ := hsrc j u hu
    obtain rfl := Option.some.inj ha
    rw [addr_add]; exact hc
  obtain ⟨v', w', hr, h2, h3, _, h5⟩ := run_append_own_at (P := P) w base t o.type E i z size bytes el.slice hi hz0 hz1 hz2 el.cells el.pos (.slice a0 n c0) n xs hown ad m c news hl hnews h1 h63 hbytes hbase
  have hv : ∃ a' c', v' = .slice a' (n + m) c' := by
    rcases h2.2 with ⟨rfl, hnm⟩ | ⟨g, cap, cur, rfl, _⟩
    · exact ⟨none, 0, by rw [hnm]⟩
    · exact ⟨_, _, rfl⟩
  obtain ⟨a', c', rfl⟩ := hv
  unfold Oper.wp execOp
  simp only [ho, resolve, invoke, builtin, Sem.run_bind, Sem.run_pure, Result.andThen_ok, List.map_toArray, List.map_cons, List.map_nil, hs, hx, hr]
  exact h a' c' w' h2 (below_of_grown hown hbase h3)
end
theorem src_below {w w' : World} {a : Option Addr} {xs : List Value} (h : SrcAt w a xs) (hb : Below w.heap.size w w') : SrcAt w' a xs := fun j u hu =>
  let ⟨b, off, ha, hc⟩ := h j u hu
  ⟨b, off, ha, below_cell hb hc⟩
set_option maxRecDepth 100000 in
set_option maxHeartbeats 8000000 in
theorem order_a1 (st rate keeps : Int) (ds : List Dis) (ad : Option Addr) (cd : Nat) (aw : Option Addr) (ws : List Int) (cw : Nat) (mv bv : Int) (w : World) (hd : DisAt w ad ds) (big : AccBig ds) (nd : ad = none → cd = 0) (lc : ds.length ≤ cd) (hw : U16At w aw ws) (nw : aw = none → cw = 0) (lw : ws.length ≤ cw) (mw : cw ≤ maxLen) (hu : ∀ n ∈ ws, 0 ≤ n ∧ n ≤ 65535) (hmv : 0 ≤ mv ∧ mv ≤ 255) (hbv : 0 ≤ bv ∧ bv ≤ 255) (hT : thinB ds = false) :
    Calls Try.prog 9 #[.agg #[.int .i64 st, .int .i64 rate, .int .i64 keeps, .slice ad ds.length cd], .slice aw ws.length cw, .int .u8 mv, .int .u8 bv] w fun e w' => e = .returned (.bool true) ∧ Below w.heap.size w w' := by
  have HB := Lib.hid big
  have HT := Lib.hid hT
  clear hT big hu lw mw hmv hbv
  go_enter Try.func9, Try.ntmps9
  go_wp2_with fail
  go_at_call 38
  refine (ready_no st rate keeps ds ad cd _ HT (hd.below (by (repeat (first | exact Below.refl _ _ | refine Below.alloc ?_ (by first | omega | (simp; done) | (simp; omega)) _ | refine Below.drew ?_ | refine Below.setCell ?_ (by first | omega | (simp; done) | (simp; omega)) _ | refine Below.trans ?_ (Below.mono (by assumption) (by first | omega | (simp; done) | (simp; omega))))))) HB).mono ?_
  rintro e w1 ⟨rfl, b1⟩
  have t1 : Below w.heap.size w w1 := by (repeat (first | exact Below.refl _ _ | refine Below.alloc ?_ (by first | omega | (simp; done) | (simp; omega)) _ | refine Below.drew ?_ | refine Below.setCell ?_ (by first | omega | (simp; done) | (simp; omega)) _ | refine Below.trans ?_ (Below.mono (by assumption) (by first | omega | (simp; done) | (simp; omega)))))
  replace hd := hd.below t1
  replace hw := hw.below t1
  have q0 := rdy_cells b1 0 rfl
  have q1 := rdy_cells b1 1 rfl
  have q2 := rdy_cells b1 2 rfl
  have q3 := rdy_cells b1 3 rfl
  have lB := cell_ltK q0
  go_wp2_with fail
  go_at_call 17
  refine (awake_any _).mono ?_
  rintro e w2 ⟨rfl, b2⟩
  have j2 : Below w1.heap.size w1 w2 := by (repeat (first | exact Below.refl _ _ | refine Below.alloc ?_ (by first | omega | (simp; done) | (simp; omega)) _ | refine Below.drew ?_ | refine Below.setCell ?_ (by first | omega | (simp; done) | (simp; omega)) _ | refine Below.trans ?_ (Below.mono (by assumption) (by first | omega | (simp; done) | (simp; omega)))))
  have t2 : Below w.heap.size w w2 := t1.trans (j2.mono t1.size)
  replace hd := hd.below j2
  replace hw := hw.below j2
  replace q0 := below_cell j2 q0
  replace q1 := below_cell j2 q1
  replace q2 := below_cell j2 q2
  replace q3 := below_cell j2 q3
  replace lB := Nat.lt_of_lt_of_le lB j2.size
  go_wp2_with fail
  go_ret
  exact ⟨rfl, t2⟩
set_option maxRecDepth 100000 in
set_option maxHeartbeats 8000000 in
theorem order_a2 (st rate keeps : Int) (ds : List Dis) (ad : Option Addr) (cd : Nat) (aw : Option Addr) (ws : List Int) (cw : Nat) (mv bv : Int) (w : World) (hd : DisAt w ad ds) (big : AccBig ds) (nd : ad = none → cd = 0) (lc : ds.length ≤ cd) (hw : U16At w aw ws) (nw : aw = none → cw = 0) (lw : ws.length ≤ cw) (mw : cw ≤ maxLen) (hu : ∀ n ∈ ws, 0 ≤ n ∧ n ≤ 65535) (hmv : 0 ≤ mv ∧ mv ≤ 255) (hbv : 0 ≤ bv ∧ bv ≤ 255) (hT : thinB ds = true) (h0 : accErr ⟨st, rate, keeps, ds⟩ ≠ 0) :
    Calls Try.prog 9 #[.agg #[.int .i64 st, .int .i64 rate, .int .i64 keeps, .slice ad ds.length cd], .slice aw ws.length cw, .int .u8 mv, .int .u8 bv] w fun e w' => e = .returned (.bool true) ∧ Below w.heap.size w w' := by
  have HB := Lib.hid big
  obtain ⟨E, hE⟩ : ∃ E, accErr ⟨st, rate, keeps, ds⟩ = E := ⟨_, rfl⟩
  rw [hE] at h0
  have hE0 : (E == 0) = false := by simpa using h0
  have HE := Lib.hid hE
  have HT := Lib.hid hT
  have HE0 := Lib.hid hE0
  clear hT big hu lw mw hE h0 hE0 hmv hbv
  go_enter Try.func9, Try.ntmps9
  go_wp2_with fail
  go_at_call 38
  refine (ready_yes st rate keeps ds ad cd _ E false HE HE0.out HT.out (hd.below (by (repeat (first | exact Below.refl _ _ | refine Below.alloc ?_ (by first | omega | (simp; done) | (simp; omega)) _ | refine Below.drew ?_ | refine Below.setCell ?_ (by first | omega | (simp; done) | (simp; omega)) _ | refine Below.trans ?_ (Below.mono (by assumption) (by first | omega | (simp; done) | (simp; omega))))))) HB).mono ?_
  rintro e w1 ⟨rfl, b1⟩
  have t1 : Below w.heap.size w w1 := by (repeat (first | exact Below.refl _ _ | refine Below.alloc ?_ (by first | omega | (simp; done) | (simp; omega)) _ | refine Below.drew ?_ | refine Below.setCell ?_ (by first | omega | (simp; done) | (simp; omega)) _ | refine Below.trans ?_ (Below.mono (by assumption) (by first | omega | (simp; done) | (simp; omega)))))
  replace hd := hd.below t1
  replace hw := hw.below t1
  have q0 := rdy_cells b1 0 rfl
  have q1 := rdy_cells b1 1 rfl
  have q2 := rdy_cells b1 2 rfl
  have q3 := rdy_cells b1 3 rfl
  have lB := cell_ltK q0
  go_wp2_with fail
  go_at_call 17
  refine (awake_any _).mono ?_
  rintro e w2 ⟨rfl, b2⟩
  have j2 : Below w1.heap.size w1 w2 := by (repeat (first | exact Below.refl _ _ | refine Below.alloc ?_ (by first | omega | (simp; done) | (simp; omega)) _ | refine Below.drew ?_ | refine Below.setCell ?_ (by first | omega | (simp; done) | (simp; omega)) _ | refine Below.trans ?_ (Below.mono (by assumption) (by first | omega | (simp; done) | (simp; omega)))))
  have t2 : Below w.heap.size w w2 := t1.trans (j2.mono t1.size)
  replace hd := hd.below j2
  replace hw := hw.below j2
  replace q0 := below_cell j2 q0
  replace q1 := below_cell j2 q1
  replace q2 := below_cell j2 q2
  replace q3 := below_cell j2 q3
  replace lB := Nat.lt_of_lt_of_le lB j2.size
  go_wp2_with fail
  go_ret
  exact ⟨rfl, t2⟩
set_option maxRecDepth 100000 in
set_option maxHeartbeats 8000000 in
theorem order_b1 (st rate keeps : Int) (ds : List Dis) (ad : Option Addr) (cd : Nat) (aw : Option Addr) (ws : List Int) (cw : Nat) (mv bv : Int) (w : World) (hd : DisAt w ad ds) (big : AccBig ds) (nd : ad = none → cd = 0) (lc : ds.length ≤ cd) (hw : U16At w aw ws) (nw : aw = none → cw = 0) (lw : ws.length ≤ cw) (mw : cw ≤ maxLen) (hu : ∀ n ∈ ws, 0 ≤ n ∧ n ≤ 65535) (hmv : 0 ≤ mv ∧ mv ≤ 255) (hbv : 0 ≤ bv ∧ bv ≤ 255) (hT : thinB ds = true) (h0 : accErr ⟨st, rate, keeps, ds⟩ = 0) (hz : ds.length ≠ 0) :
    Calls Try.prog 9 #[.agg #[.int .i64 st, .int .i64 rate, .int .i64 keeps, .slice ad ds.length cd], .slice aw ws.length cw, .int .u8 mv, .int .u8 bv] w fun e w' => e = .returned (.bool true) ∧ Below w.heap.size w w' := by
  have HB := Lib.hid big
  have HT := Lib.hid hT
  have SM := Lib.hid (thin_small (st := st) (rate := rate) (keeps := keeps) hT)
  have H0 := Lib.hid h0
  have HU : Hid (U16s ws) := Lib.hid hu
  have hwl : ws.length ≤ 9223372036854775807 := by unfold maxLen at mw; omega
  have AO := accErr_ok h0
  have hst := AO.st
  have hn6 : ds.length ≤ 6 := AO.len
  simp only at hst
  obtain ⟨n, rfl⟩ : ∃ n : Nat, st = (n : Int) := ⟨st.toNat, by omega⟩
  have hn7 : n ≤ 7 := by omega
  have hn1 : 1 ≤ n := by omega
  have G := good_of h0
  simp only at G
  have HG := Lib.hid G
  obtain ⟨many, rfl⟩ : ∃ m : Nat, mv = (m : Int) := ⟨mv.toNat, by omega⟩
  have hmy : many ≤ 255 := by omega
  obtain ⟨bn, rfl⟩ : ∃ bn : Nat, bv = (bn : Int) := ⟨bv.toNat, by omega⟩
  have hcb : IntKind.i64.wrap (bn : Int) = (bn : Int) := IntWalk.i64_in _ (by omega)
  obtain ⟨L, hL⟩ : ∃ L, owedL ws many = L := ⟨_, rfl⟩
  have hLl := owed_len ws many
  have h0L := owed_err ws many
  rw [hL] at hLl h0L
  have HL := Lib.hid hL
  have H0L := Lib.hid h0L
  have lL : L.length ≤ 1000 := by omega
  obtain ⟨k, hk⟩ : ∃ k, bn % L.length = k := ⟨_, rfl⟩
  have hkL : k < L.length := by rw [← hk]; exact Nat.mod_lt _ (by omega)
  have htb : Int.tmod (bn : Int) (L.length : Int) = (k : Int) := by rw [← hk]; rfl
  have hLnz : ¬ ((L.length : Int) = 0) := by omega
  obtain ⟨M, hM⟩ : ∃ M, L.drop k ++ L.take k = M := ⟨_, rfl⟩
  have hMl : M.length = L.length := by rw [← hM]; simp; omega
  have h0M : balsErr M = 0 := by
    obtain ⟨l7, ne, hd', hz⟩ := balsErr_ok h0L
    rw [← hM]
    refine balsErr_of (by simp; omega) (fun e => ?_) (fun x hx => ?_) ?_
    · have := congrArg List.length e
      simp at this; omega
    · rcases List.mem_append.1 hx with h | h
      · exact debts hd' x (List.mem_of_mem_drop h)
      · exact debts hd' x (List.mem_of_mem_take h)
    · have e := congrArg List.sum (List.take_append_drop k L)
      rw [List.sum_append] at e ⊢
      omega
  have hst2 : (settleL M).length = (settleL L).length := by
    have := settle_turn (a := L.take k) (b := L.drop k) (by rw [List.take_append_drop]; exact h0L) (by rw [hM]; exact h0M)
    rwa [hM, List.take_append_drop] at this
  obtain ⟨SL, hSL⟩ : ∃ S, settleL L = S := ⟨_, rfl⟩
  obtain ⟨SM', hSM⟩ : ∃ S, settleL M = S := ⟨_, rfl⟩
  rw [hSL, hSM] at hst2
  have f9 : ((SL.length : Int) == (SM'.length : Int)) = true := by simp; omega
  have HSL := Lib.hid hSL
  have HSM := Lib.hid hSM
  have HM := Lib.hid hM
  have HMl := Lib.hid hMl
  have H0M := Lib.hid h0M
  have hkI : (k : Int) ≤ (L.length : Int) := by omega
  have hML : L.length - k + k = M.length := by omega
  have HML := Lib.hid hML
  clear hL hLl h0L hk hM hMl h0M hst2 hSL hSM hML
  obtain ⟨O, hO⟩ : ∃ O, bdOut ⟨(n : Int), rate, keeps, ds⟩ = O := ⟨_, rfl⟩
  have hOd : bdL rate keeps ds n = O := by rw [← hO, bdOut, if_pos h0]; simp
  have hOl : O.length = n := by rw [← hOd, bdL_len]
  have hO7 : O.length ≤ 7 := by omega
  have HO := Lib.hid hO
  obtain ⟨kd, hkd⟩ : ∃ k, bn % ds.length = k := ⟨_, rfl⟩
  have hkn : kd < ds.length := by rw [← hkd]; exact Nat.mod_lt _ (by omega)
  have htd : Int.tmod (bn : Int) (ds.length : Int) = (kd : Int) := by rw [← hkd]; rfl
  have hdnz : ¬ ((ds.length : Int) = 0) := by omega
  have hdp : decide ((0 : Int) < (ds.length : Int)) = true := by simp; omega
  have hkdI : (kd : Int) ≤ (ds.length : Int) := by omega
  obtain ⟨R, hR⟩ : ∃ R, ds.drop kd ++ ds.take kd = R := ⟨_, rfl⟩
  have hRl : R.length = ds.length := by rw [← hR]; simp; omega
  have h0R : accErr ⟨(n : Int), rate, keeps, R⟩ = 0 := by
    rw [← hR, accErr_turn, List.take_append_drop]; exact h0
  have hOR : bdOut ⟨(n : Int), rate, keeps, R⟩ = O := by
    rw [bdOut, if_pos h0R, ← hOd]
    show bdL rate keeps R n = bdL rate keeps ds n
    rw [← hR, bdL_turn, List.take_append_drop]
  have HOR := Lib.hid hOR
  have H0R := Lib.hid h0R
  have SMR : Hid (AccSmall ⟨(n : Int), rate, keeps, R⟩) := Lib.hid ⟨by show R.length ≤ 1000; omega, fun d hd1 => by
    have hd1 : d ∈ R := hd1
    have := (accErr_ok h0R).few d hd1
    omega⟩
  have HR := Lib.hid hR
  have hRL : ds.length - kd + kd = R.length := by omega
  have HRL := Lib.hid hRL
  have Hld : Hid ((ds.drop kd).length = ds.length - kd) := Lib.hid (by simp)
  have Hlt : Hid ((ds.take kd).length = kd) := Lib.hid (by simp; omega)
  clear hR hRl h0R hOR hRL hkd hOd hO hOl hz hT h0 big hu lw mw G AO hst hmv hbv
  go_enter Try.func9, Try.ntmps9
  go_wp2_with fail
  go_at_call 38
  refine (ready_yes (n : Int) rate keeps ds ad cd _ 0 true H0 rfl HT.out (hd.below (by (repeat (first | exact Below.refl _ _ | refine Below.alloc ?_ (by first | omega | (simp; done) | (simp; omega)) _ | refine Below.drew ?_ | refine Below.setCell ?_ (by first | omega | (simp; done) | (simp; omega)) _ | refine Below.trans ?_ (Below.mono (by assumption) (by first | omega | (simp; done) | (simp; omega))))))) HB).mono ?_
  rintro e w1 ⟨rfl, b1⟩
  have t1 : Below w.heap.size w w1 := by (repeat (first | exact Below.refl _ _ | refine Below.alloc ?_ (by first | omega | (simp; done) | (simp; omega)) _ | refine Below.drew ?_ | refine Below.setCell ?_ (by first | omega | (simp; done) | (simp; omega)) _ | refine Below.trans ?_ (Below.mono (by assumption) (by first | omega | (simp; done) | (simp; omega)))))
  replace hd := hd.below t1
  replace hw := hw.below t1
  have q0 := rdy_cells b1 0 rfl
  have q1 := rdy_cells b1 1 rfl
  have q2 := rdy_cells b1 2 rfl
  have q3 := rdy_cells b1 3 rfl
  have lB := cell_ltK q0
  obtain ⟨bd, od, _, _, rfl, lbd, _⟩ := hd 0 (by omega)
  obtain ⟨vB, vB1, vB2, vB3⟩ := dis_vals (hd.drop kd)
  obtain ⟨vA, vA1, vA2, vA3⟩ := dis_vals (hd.take kd)
  have vB4 := vB1.1
  have vA4 := vA1.1
  rw [Hld.out] at vB4
  rw [Hlt.out] at vA4
  obtain ⟨X3, hX3⟩ : ∃ z : World, z = w1.alloc (.cells #[.int .i64 (n : Int), .int .i64 rate, .int .i64 keeps, .slice (some ⟨bd, od, none⟩) ds.length cd] 24) := ⟨_, rfl⟩
  have C9 : Cells X3 w1.heap.size #[.int .i64 (n : Int), .int .i64 rate, .int .i64 keeps, .slice (some ⟨bd, od, none⟩) ds.length cd] 24 := by rw [hX3]; exact Cells.new _ _ _
  have bS : Below w1.heap.size w1 X3 := by rw [hX3]; exact (Below.refl _ _).alloc (Nat.le_refl _) _
  go_upto_region 7 with fail
  rw [← hX3]
  clear hX3
  have kd' := hd
  have kw' := hw
  have m0 := q0
  have m1 := q1
  have m2 := q2
  have k3w := q3
  replace hd := hd.below bS
  replace hw := hw.below bS
  replace q0 := below_cell bS q0
  replace q1 := below_cell bS q1
  replace q2 := below_cell bS q2
  replace q3 := below_cell bS q3
  replace lB := Nat.lt_of_lt_of_le lB bS.size
  have p9 := C9.cell 3
  simp at p9
  have f9 := C9.frozen 3
  have l9 := C9.lt
  have hwB : w.heap.size < X3.heap.size := lB
  have hcd : kd < cd := by omega
  have hcdI : (kd : Int) ≤ (cd : Int) := by omega
  have hcd0 : ¬ cd - kd = 0 := by omega
  have hcd1 : ¬ cd = 0 := by omega
  have hcd2 : ¬ cd = kd := by omega
  have ldI : (ds.length : Int) ≤ (cd : Int) := by omega
  have S1 : ∀ W : World, Below w1.heap.size w1 W → W.cell? ⟨w.heap.size, 3, none⟩ = some (.slice (some ⟨bd, od, none⟩) ds.length cd) := fun W b => below_cell b k3w
  have own5 : True := trivial
  have bb5 : True := trivial
  have bb6 : True := trivial
  go_region_held3 (fun w' => w'.cell? ⟨w.heap.size, 3, none⟩ = some (.slice (some ⟨bd, od, none⟩) ds.length cd))
    (first | exact S1 _ (bS.trans (bb6.mono bS.size)) | exact S1 _ ((bS.trans (bb6.mono bS.size)).setCell (Nat.le_refl _) _) | exact S1 _ ((bS.trans (bb6.mono bS.size)).setCell (Nat.le_refl _) _).drew | exact S1 _ (bS.trans (bb5.mono bS.size)) | exact S1 _ (by (repeat (first | exact Below.refl _ _ | refine Below.alloc ?_ (by first | omega | (simp; done) | (simp; omega)) _ | refine Below.drew ?_ | refine Below.setCell ?_ (by first | omega | (simp; done) | (simp; omega)) _ | refine Below.trans ?_ (Below.mono (by assumption) (by first | omega | (simp; done) | (simp; omega)))))))
    (first
      | (refine step_app_some (by rfl) elRDisp X3.heap.size _ _ (by rfl) _ _ _ _ (by rfl) own5 ⟨bd, od, none⟩ kd cd vA (by rfl) vA4 (src_below vA2 (by exact bS.trans (bb5.mono bS.size))) vA3 (by unfold maxLen; omega) (by omega) (by exact bb5.size) ?_; intro a6 c6 w6 own6 b6; have bb6 := bb5.trans b6; have p96 := below_cell bb6 p9; have f96 := (C9.below bb6).frozen 3; have l96 := (C9.below bb6).lt)
      | (refine step_app_some (by rfl) elRDisp X3.heap.size _ _ (by rfl) _ _ _ _ (by rfl) (by first | exact OwnL.lit #[] (by first | exact Nat.le_refl _ | (simp; done)) (by decide) rfl | exact (OwnL.lit #[] (by first | exact Nat.le_refl _ | (simp; done)) (by decide) rfl).kept (Below.refl _ _).drew) ⟨bd, od + kd * 4, none⟩ (ds.length - kd) (cd - kd) vB (by rfl) vB4 (src_below vB2 (by (repeat (first | exact Below.refl _ _ | refine Below.alloc ?_ (by first | omega | (simp; done) | (simp; omega)) _ | refine Below.drew ?_ | refine Below.setCell ?_ (by first | omega | (simp; done) | (simp; omega)) _ | refine Below.trans ?_ (Below.mono (by assumption) (by first | omega | (simp; done) | (simp; omega))))))) vB3 (by unfold maxLen; omega) (by omega) (by first | (simp; done) | (simp; omega)) ?_; intro a5 c5 w5 own5 b5; have bb5 : Below X3.heap.size X3 w5 := Below.trans (by (repeat (first | exact Below.refl _ _ | refine Below.alloc ?_ (by first | omega | (simp; done) | (simp; omega)) _ | refine Below.drew ?_ | refine Below.setCell ?_ (by first | omega | (simp; done) | (simp; omega)) _ | refine Below.trans ?_ (Below.mono (by assumption) (by first | omega | (simp; done) | (simp; omega)))))) b5))
  rw [Nat.zero_add, HRL.out] at own6
  rw [HRL.out]
  rw [show (#[] : Array Value).toList ++ vB ++ vA = vB ++ vA from rfl] at own6
  obtain ⟨X7, hX7⟩ : ∃ z : World, z = w6.setCell ⟨w1.heap.size, 3, none⟩ (.slice a6 R.length c6) := ⟨_, rfl⟩
  have C9b : Cells X7 w1.heap.size #[.int .i64 (n : Int), .int .i64 rate, .int .i64 keeps, .slice a6 R.length c6] 24 := by rw [hX7]; exact (C9.below bb6).set 3 _
  have own7 : OwnL 43 4 X3.heap.size X7 a6 c6 R.length (vB ++ vA) := by rw [hX7]; exact own6.store (p := ⟨w1.heap.size, 3, none⟩) l9 _
  have bS7 : Below w1.heap.size w1 X7 := by rw [hX7]; exact (bS.trans (bb6.mono bS.size)).setCell (p := ⟨w1.heap.size, 3, none⟩) (Nat.le_refl _) _
  rw [← hX7]
  clear hX7 C9 own6 b6 bb6 p96 f96 l96 p9 f9 l9 S1
  have dR : DisAt X7 a6 R := by
    have := ((vB1.app vA1).below bS7).dis own7
    rwa [HR.out] at this
  replace hd := kd'.below bS7
  replace hw := kw'.below bS7
  replace q0 := below_cell bS7 m0
  replace q1 := below_cell bS7 m1
  replace q2 := below_cell bS7 m2
  replace q3 := below_cell bS7 k3w
  replace lB := cell_ltK q0
  have ra0 := C9b.cell 0
  have ra1 := C9b.cell 1
  have ra2 := C9b.cell 2
  have ra3 := C9b.cell 3
  simp at ra0 ra1 ra2 ra3
  have lr := C9b.lt
  have tX := t1.trans (bS7.mono t1.size)
  clear C9b own7 vA1 vA2 vA3 vB1 vB2 vB3 kd' kw' m0 m1 m2 k3w bS bS7
  go_wp2_with fail
  go_at_call 19
  refine (account_eq (n : Int) rate keeps ds (some ⟨bd, od, none⟩) cd _ hd SM).mono ?_
  rintro e y1 ⟨⟨aP, cP, rfl, dP⟩, e1⟩
  have s1 : Below X7.heap.size X7 y1 := by (repeat (first | exact Below.refl _ _ | refine Below.alloc ?_ (by first | omega | (simp; done) | (simp; omega)) _ | refine Below.drew ?_ | refine Below.setCell ?_ (by first | omega | (simp; done) | (simp; omega)) _ | refine Below.trans ?_ (Below.mono (by assumption) (by first | omega | (simp; done) | (simp; omega)))))
  replace hd := hd.below s1
  replace dR := dR.below s1
  replace hw := hw.below s1
  replace q0 := below_cell s1 q0
  replace q1 := below_cell s1 q1
  replace q2 := below_cell s1 q2
  replace q3 := below_cell s1 q3
  replace ra0 := below_cell s1 ra0
  replace ra1 := below_cell s1 ra1
  replace ra2 := below_cell s1 ra2
  replace ra3 := below_cell s1 ra3
  replace lB := Nat.lt_of_lt_of_le lB s1.size
  replace lr := Nat.lt_of_lt_of_le lr s1.size
  go_wp2_with fail
  go_at_call 40
  refine (bounds_eq (n : Int) rate keeps ds aP cP _ O H0 HO dP SM).mono ?_
  rintro e y2 ⟨⟨aO, cO, rfl, iO⟩, e2⟩
  have r2 : Below y1.heap.size y1 y2 := by (repeat (first | exact Below.refl _ _ | refine Below.alloc ?_ (by first | omega | (simp; done) | (simp; omega)) _ | refine Below.drew ?_ | refine Below.setCell ?_ (by first | omega | (simp; done) | (simp; omega)) _ | refine Below.trans ?_ (Below.mono (by assumption) (by first | omega | (simp; done) | (simp; omega)))))
  have s2 : Below X7.heap.size X7 y2 := s1.trans (r2.mono s1.size)
  replace hd := hd.below r2
  replace dR := dR.below r2
  replace hw := hw.below r2
  replace q0 := below_cell r2 q0
  replace q1 := below_cell r2 q1
  replace q2 := below_cell r2 q2
  replace q3 := below_cell r2 q3
  replace ra0 := below_cell r2 ra0
  replace ra1 := below_cell r2 ra1
  replace ra2 := below_cell r2 ra2
  replace ra3 := below_cell r2 ra3
  replace lB := Nat.lt_of_lt_of_le lB r2.size
  replace lr := Nat.lt_of_lt_of_le lr r2.size
  replace dP := dP.below r2
  clear dP
  go_wp2_with fail
  go_at_call 19
  refine (account_eq (n : Int) rate keeps R a6 c6 _ dR SMR).mono ?_
  rintro e y3 ⟨⟨aQ, cQ, rfl, dQ⟩, e3⟩
  have r3 : Below y2.heap.size y2 y3 := by (repeat (first | exact Below.refl _ _ | refine Below.alloc ?_ (by first | omega | (simp; done) | (simp; omega)) _ | refine Below.drew ?_ | refine Below.setCell ?_ (by first | omega | (simp; done) | (simp; omega)) _ | refine Below.trans ?_ (Below.mono (by assumption) (by first | omega | (simp; done) | (simp; omega)))))
  have s3 : Below X7.heap.size X7 y3 := s2.trans (r3.mono s2.size)
  replace hd := hd.below r3
  replace dR := dR.below r3
  replace hw := hw.below r3
  replace q0 := below_cell r3 q0
  replace q1 := below_cell r3 q1
  replace q2 := below_cell r3 q2
  replace q3 := below_cell r3 q3
  replace ra0 := below_cell r3 ra0
  replace ra1 := below_cell r3 ra1
  replace ra2 := below_cell r3 ra2
  replace ra3 := below_cell r3 ra3
  replace lB := Nat.lt_of_lt_of_le lB r3.size
  replace lr := Nat.lt_of_lt_of_le lr r3.size
  replace iO := iO.below r3
  go_wp2_with fail
  go_at_call 40
  refine (bounds_eq (n : Int) rate keeps R aQ cQ _ O H0R HOR dQ SMR).mono ?_
  rintro e y4 ⟨⟨aU, cU, rfl, iU⟩, e4⟩
  have r4 : Below y3.heap.size y3 y4 := by (repeat (first | exact Below.refl _ _ | refine Below.alloc ?_ (by first | omega | (simp; done) | (simp; omega)) _ | refine Below.drew ?_ | refine Below.setCell ?_ (by first | omega | (simp; done) | (simp; omega)) _ | refine Below.trans ?_ (Below.mono (by assumption) (by first | omega | (simp; done) | (simp; omega)))))
  have s4 : Below X7.heap.size X7 y4 := s3.trans (r4.mono s3.size)
  replace hd := hd.below r4
  replace dR := dR.below r4
  replace hw := hw.below r4
  replace q0 := below_cell r4 q0
  replace q1 := below_cell r4 q1
  replace q2 := below_cell r4 q2
  replace q3 := below_cell r4 q3
  replace ra0 := below_cell r4 ra0
  replace ra1 := below_cell r4 ra1
  replace ra2 := below_cell r4 ra2
  replace ra3 := below_cell r4 ra3
  replace lB := Nat.lt_of_lt_of_le lB r4.size
  replace lr := Nat.lt_of_lt_of_le lr r4.size
  replace iO := iO.below r4
  replace dQ := dQ.below r4
  clear dQ
  have nO : ((O.length : Int) != (O.length : Int)) = false := by simp
  have tY : Below w.heap.size w y4 := tX.trans (s4.mono tX.size)
  go_wp2_with fail
  go_loopw [16] (fun v X => ∃ j : Nat, j ≤ O.length ∧ v = .int .i64 j ∧ Below y4.heap.size y4 X) (fun v _ => O.length - (intOf v).toNat)
  case atStart => exact ⟨0, Nat.zero_le _, rfl, Below.refl _ _⟩
  case round =>
    obtain ⟨j, hj, rfl, hbX⟩ := hrel
    rename World => Z0
    by_cases hlt : j < O.length
    · have hjI : (j : Int) < (O.length : Int) := by omega
      obtain ⟨g1, o1, rfl, _, x1, x2⟩ := (iO.below hbX) j hlt
      obtain ⟨g2, o2, rfl, _, x3, x4⟩ := (iU.below hbX) j hlt
      have y1 := cell_ltK x1
      have y3 := cell_ltK x3
      obtain ⟨lo, hlo⟩ : ∃ z, O[j].1 = z := ⟨_, rfl⟩
      obtain ⟨mo, hmo⟩ : ∃ z, O[j].2 = z := ⟨_, rfl⟩
      rw [hlo] at x1 x3
      rw [hmo] at x2 x4
      clear hlo hmo
      go_wp2
      (refine wp_region_ext 9 (by kernel_rfl) (by kernel_rfl) ?_; simp only [List.take_succ_cons, List.take_zero, List.drop_succ_cons, List.drop_zero]; (repeat (go_big_quiet_step ((fail)))); refine wpQuiet_nil ?_; rintro _ ⟨ex, rfl⟩; have hex := ex.below; have hexz := ex.size; (try simp at hexz); (try (have hy0 : w.heap.size < ex.to.heap.size := by omega)); (try (have hy1 : w.heap.size + 1 < ex.to.heap.size := by omega)); (try (have hy2 : w.heap.size + 2 < ex.to.heap.size := by omega)))
      go_wp2
      go_roundw
      case rel => exact ⟨j + 1, by omega, by go_num, hbX.trans (ex.below.mono hbX.size)⟩
      case measure => simp [intOf]; omega
    · obtain rfl : j = O.length := by omega
      replace hw := hw.below hbX
      replace tY := tY.trans (hbX.mono tY.size)
      go_wp2_with fail
      go_at_call 41
      refine (owed_eq2 aw ws cw many L HL _ hw HU hwl hmy).mono ?_
      rintro e Z1 ⟨⟨aL, cL, rfl, iL, nL, fL⟩, bZ1⟩
      have u1 := tY.trans (bZ1.mono tY.size)
      go_wp2_with fail
      go_at_call 34
      refine (rBals_eq aL L cL _ 0 H0L iL lL).mono ?_
      rintro e _ ⟨rfl, rfl⟩
      obtain ⟨bL, oL, rfl, _⟩ := iL 0 (by omega)
      have hcL : k < cL := by omega
      have hcLI : (k : Int) ≤ (cL : Int) := by omega
      have hcL0 : ¬ cL - k = 0 := by omega
      have hcL1 : ¬ cL = 0 := by omega
      have hcL2 : ¬ cL = k := by omega
      have lcI : (L.length : Int) ≤ (cL : Int) := by omega
      have Hdl : Hid ((L.drop k).length = L.length - k) := Lib.hid (by simp)
      have Htl : Hid (((L.take k).map (Value.int .i64)).length = k * 1) := Lib.hid (by simp; omega)
      have own5 : True := trivial
      have bb5 : True := trivial
      go_upto_region 21 with fail
      go_region_held3 (fun _ => True) (exact trivial)
        (first
          | (refine step_app_some (by rfl) elInt Z1.heap.size _ _ (by rfl) _ _ _ _ (by rfl) own5 ⟨bL, oL, none⟩ k cL ((L.take k).map (Value.int .i64)) (by rfl) Htl.out (SrcAt.ints (take_ints (iL.below bb5) k)) (fun u hu => by obtain ⟨z, _, rfl⟩ := List.mem_map.1 hu; rfl) (by unfold maxLen; omega) (by omega) bb5.size ?_; intro a6 c6 w6 own6 b6; have bb6 := bb5.trans b6)
          | (go_at_call 22; (first | refine (list_own_n (some ⟨bL, oL + k, none⟩) (L.drop k) (L.length - k) (cL - k) Hdl.out _ (ints_drop iL k) (by omega) (fun h => by cases h)).mono ?_ | refine (list_own_n (some ⟨bL, oL + k, none⟩) (L.drop k) (L.length - k) (cL - k) Hdl.out _ (ints_drop (iL.below ((Below.refl _ _).drew)) k) (by omega) (fun h => by cases h)).mono ?_); rintro e w5 ⟨⟨a5, c5, rfl, own5'⟩, bb5'⟩; have bb5 : Below Z1.heap.size Z1 w5 := (by first | exact bb5' | exact Below.trans (Below.drew (Below.refl _ _)) bb5'); have own5 : OwnL 3 1 Z1.heap.size w5 a5 c5 (L.length - k) ((L.drop k).map (Value.int .i64)) := own5'))
      rw [HML.out] at own6 ⊢
      rw [← List.map_append, HM.out] at own6
      have i6 := own6.ints.1
      have n6 : a6 = none → c6 = 0 := fun h => by subst h; exact own6.isnil.2
      have u2 := u1.trans (bb6.mono u1.size)
      replace iL := iL.below bb6
      go_wp2_with fail
      go_at_call 22
      refine (list_eq _ _ L cL iL lL nL).mono ?_
      rintro e Z3 ⟨⟨a7, c7, rfl, i7, n7⟩, b7⟩
      have u3 := u2.trans (b7.mono u2.size)
      replace i6 := i6.below b7
      go_wp2_with fail
      go_at_call 31
      refine (settle_eq a7 L c7 _ SL H0L HSL i7 n7).mono ?_
      rintro e Z4 ⟨⟨a8, c8, rfl, -⟩, b8⟩
      have u4 := u3.trans (b8.mono u3.size)
      replace i6 := i6.below b8
      go_wp2_with fail
      go_at_call 31
      refine (settle_eq a6 M c6 _ SM' H0M HSM i6 n6).mono ?_
      rintro e Z5 ⟨⟨a9, c9, rfl, -⟩, b9⟩
      have u5 := u4.trans (b9.mono u4.size)
      go_wp2_with fail
      go_at_call 17
      refine (awake_any _).mono ?_
      rintro e Z6 ⟨rfl, b10⟩
      go_wp2_with fail
      go_ret
      exact ⟨rfl, u5.trans (b10.mono u5.size)⟩
set_option maxRecDepth 100000 in
set_option maxHeartbeats 8000000 in
theorem order_b0 (st rate keeps : Int) (ds : List Dis) (ad : Option Addr) (cd : Nat) (aw : Option Addr) (ws : List Int) (cw : Nat) (mv bv : Int) (w : World) (hd : DisAt w ad ds) (big : AccBig ds) (nd : ad = none → cd = 0) (lc : ds.length ≤ cd) (hw : U16At w aw ws) (nw : aw = none → cw = 0) (lw : ws.length ≤ cw) (mw : cw ≤ maxLen) (hu : ∀ n ∈ ws, 0 ≤ n ∧ n ≤ 65535) (hmv : 0 ≤ mv ∧ mv ≤ 255) (hbv : 0 ≤ bv ∧ bv ≤ 255) (hT : thinB ds = true) (h0 : accErr ⟨st, rate, keeps, ds⟩ = 0) (hz : ds.length = 0) :
    Calls Try.prog 9 #[.agg #[.int .i64 st, .int .i64 rate, .int .i64 keeps, .slice ad ds.length cd], .slice aw ws.length cw, .int .u8 mv, .int .u8 bv] w fun e w' => e = .returned (.bool true) ∧ Below w.heap.size w w' := by
  have HB := Lib.hid big
  have HT := Lib.hid hT
  have SM := Lib.hid (thin_small (st := st) (rate := rate) (keeps := keeps) hT)
  have H0 := Lib.hid h0
  have HU : Hid (U16s ws) := Lib.hid hu
  have hwl : ws.length ≤ 9223372036854775807 := by unfold maxLen at mw; omega
  have AO := accErr_ok h0
  have hst := AO.st
  have hn6 : ds.length ≤ 6 := AO.len
  simp only at hst
  obtain ⟨n, rfl⟩ : ∃ n : Nat, st = (n : Int) := ⟨st.toNat, by omega⟩
  have hn7 : n ≤ 7 := by omega
  have hn1 : 1 ≤ n := by omega
  have G := good_of h0
  simp only at G
  have HG := Lib.hid G
  obtain ⟨many, rfl⟩ : ∃ m : Nat, mv = (m : Int) := ⟨mv.toNat, by omega⟩
  have hmy : many ≤ 255 := by omega
  obtain ⟨bn, rfl⟩ : ∃ bn : Nat, bv = (bn : Int) := ⟨bv.toNat, by omega⟩
  have hcb : IntKind.i64.wrap (bn : Int) = (bn : Int) := IntWalk.i64_in _ (by omega)
  obtain ⟨L, hL⟩ : ∃ L, owedL ws many = L := ⟨_, rfl⟩
  have hLl := owed_len ws many
  have h0L := owed_err ws many
  rw [hL] at hLl h0L
  have HL := Lib.hid hL
  have H0L := Lib.hid h0L
  have lL : L.length ≤ 1000 := by omega
  obtain ⟨k, hk⟩ : ∃ k, bn % L.length = k := ⟨_, rfl⟩
  have hkL : k < L.length := by rw [← hk]; exact Nat.mod_lt _ (by omega)
  have htb : Int.tmod (bn : Int) (L.length : Int) = (k : Int) := by rw [← hk]; rfl
  have hLnz : ¬ ((L.length : Int) = 0) := by omega
  obtain ⟨M, hM⟩ : ∃ M, L.drop k ++ L.take k = M := ⟨_, rfl⟩
  have hMl : M.length = L.length := by rw [← hM]; simp; omega
  have h0M : balsErr M = 0 := by
    obtain ⟨l7, ne, hd', hz⟩ := balsErr_ok h0L
    rw [← hM]
    refine balsErr_of (by simp; omega) (fun e => ?_) (fun x hx => ?_) ?_
    · have := congrArg List.length e
      simp at this; omega
    · rcases List.mem_append.1 hx with h | h
      · exact debts hd' x (List.mem_of_mem_drop h)
      · exact debts hd' x (List.mem_of_mem_take h)
    · have e := congrArg List.sum (List.take_append_drop k L)
      rw [List.sum_append] at e ⊢
      omega
  have hst2 : (settleL M).length = (settleL L).length := by
    have := settle_turn (a := L.take k) (b := L.drop k) (by rw [List.take_append_drop]; exact h0L) (by rw [hM]; exact h0M)
    rwa [hM, List.take_append_drop] at this
  obtain ⟨SL, hSL⟩ : ∃ S, settleL L = S := ⟨_, rfl⟩
  obtain ⟨SM', hSM⟩ : ∃ S, settleL M = S := ⟨_, rfl⟩
  rw [hSL, hSM] at hst2
  have f9 : ((SL.length : Int) == (SM'.length : Int)) = true := by simp; omega
  have HSL := Lib.hid hSL
  have HSM := Lib.hid hSM
  have HM := Lib.hid hM
  have HMl := Lib.hid hMl
  have H0M := Lib.hid h0M
  have hkI : (k : Int) ≤ (L.length : Int) := by omega
  have hML : L.length - k + k = M.length := by omega
  have HML := Lib.hid hML
  clear hL hLl h0L hk hM hMl h0M hst2 hSL hSM hML
  obtain ⟨O, hO⟩ : ∃ O, bdOut ⟨(n : Int), rate, keeps, ds⟩ = O := ⟨_, rfl⟩
  have hOd : bdL rate keeps ds n = O := by rw [← hO, bdOut, if_pos h0]; simp
  have hOl : O.length = n := by rw [← hOd, bdL_len]
  have hO7 : O.length ≤ 7 := by omega
  have HO := Lib.hid hO
  have hdp : decide ((0 : Int) < (ds.length : Int)) = false := by simp [hz]
  have hdp2 : ¬ 0 < ds.length := by omega
  have hdp3 : ¬ (0 : Int) < (ds.length : Int) := by omega
  obtain ⟨R, hR⟩ : ∃ R, ds = R := ⟨_, rfl⟩
  have H0R : Hid (accErr ⟨(n : Int), rate, keeps, R⟩ = 0) := Lib.hid (by rw [← hR]; exact h0)
  have HOR : Hid (bdOut ⟨(n : Int), rate, keeps, R⟩ = O) := Lib.hid (by rw [← hR]; exact hO)
  have SMR : Hid (AccSmall ⟨(n : Int), rate, keeps, R⟩) := Lib.hid (by rw [← hR]; exact SM.out)
  have HR := Lib.hid hR
  clear hR hOd hO hOl hz hT h0 big hu lw mw G AO hst hmv hbv
  go_enter Try.func9, Try.ntmps9
  go_wp2_with fail
  go_at_call 38
  refine (ready_yes (n : Int) rate keeps ds ad cd _ 0 true H0 rfl HT.out (hd.below (by (repeat (first | exact Below.refl _ _ | refine Below.alloc ?_ (by first | omega | (simp; done) | (simp; omega)) _ | refine Below.drew ?_ | refine Below.setCell ?_ (by first | omega | (simp; done) | (simp; omega)) _ | refine Below.trans ?_ (Below.mono (by assumption) (by first | omega | (simp; done) | (simp; omega))))))) HB).mono ?_
  rintro e w1 ⟨rfl, b1⟩
  have t1 : Below w.heap.size w w1 := by (repeat (first | exact Below.refl _ _ | refine Below.alloc ?_ (by first | omega | (simp; done) | (simp; omega)) _ | refine Below.drew ?_ | refine Below.setCell ?_ (by first | omega | (simp; done) | (simp; omega)) _ | refine Below.trans ?_ (Below.mono (by assumption) (by first | omega | (simp; done) | (simp; omega)))))
  replace hd := hd.below t1
  replace hw := hw.below t1
  have q0 := rdy_cells b1 0 rfl
  have q1 := rdy_cells b1 1 rfl
  have q2 := rdy_cells b1 2 rfl
  have q3 := rdy_cells b1 3 rfl
  have lB := cell_ltK q0
  obtain ⟨X7, hX7⟩ : ∃ z : World, z = w1.alloc (.cells #[.int .i64 (n : Int), .int .i64 rate, .int .i64 keeps, .slice ad ds.length cd] 24) := ⟨_, rfl⟩
  have C9b : Cells X7 w1.heap.size #[.int .i64 (n : Int), .int .i64 rate, .int .i64 keeps, .slice ad ds.length cd] 24 := by rw [hX7]; exact Cells.new _ _ _
  have bS7 : Below w1.heap.size w1 X7 := by rw [hX7]; exact (Below.refl _ _).alloc (Nat.le_refl _) _
  go_upto_region 8 with fail
  rw [← hX7]
  clear hX7
  have dR := hd.below bS7
  replace hd := hd.below bS7
  replace hw := hw.below bS7
  replace q0 := below_cell bS7 q0
  replace q1 := below_cell bS7 q1
  replace q2 := below_cell bS7 q2
  replace q3 := below_cell bS7 q3
  replace lB := cell_ltK q0
  have ra0 := C9b.cell 0
  have ra1 := C9b.cell 1
  have ra2 := C9b.cell 2
  have ra3 := C9b.cell 3
  simp at ra0 ra1 ra2 ra3
  have lr := C9b.lt
  have tX := t1.trans (bS7.mono t1.size)
  clear C9b bS7
  go_wp2_with fail
  go_at_call 19
  refine (account_eq (n : Int) rate keeps ds ad cd _ hd SM).mono ?_
  rintro e y1 ⟨⟨aP, cP, rfl, dP⟩, e1⟩
  have s1 : Below X7.heap.size X7 y1 := by (repeat (first | exact Below.refl _ _ | refine Below.alloc ?_ (by first | omega | (simp; done) | (simp; omega)) _ | refine Below.drew ?_ | refine Below.setCell ?_ (by first | omega | (simp; done) | (simp; omega)) _ | refine Below.trans ?_ (Below.mono (by assumption) (by first | omega | (simp; done) | (simp; omega)))))
  replace hd := hd.below s1
  replace dR := dR.below s1
  replace hw := hw.below s1
  replace q0 := below_cell s1 q0
  replace q1 := below_cell s1 q1
  replace q2 := below_cell s1 q2
  replace q3 := below_cell s1 q3
  replace ra0 := below_cell s1 ra0
  replace ra1 := below_cell s1 ra1
  replace ra2 := below_cell s1 ra2
  replace ra3 := below_cell s1 ra3
  replace lB := Nat.lt_of_lt_of_le lB s1.size
  replace lr := Nat.lt_of_lt_of_le lr s1.size
  go_wp2_with fail
  go_at_call 40
  refine (bounds_eq (n : Int) rate keeps ds aP cP _ O H0 HO dP SM).mono ?_
  rintro e y2 ⟨⟨aO, cO, rfl, iO⟩, e2⟩
  have r2 : Below y1.heap.size y1 y2 := by (repeat (first | exact Below.refl _ _ | refine Below.alloc ?_ (by first | omega | (simp; done) | (simp; omega)) _ | refine Below.drew ?_ | refine Below.setCell ?_ (by first | omega | (simp; done) | (simp; omega)) _ | refine Below.trans ?_ (Below.mono (by assumption) (by first | omega | (simp; done) | (simp; omega)))))
  have s2 : Below X7.heap.size X7 y2 := s1.trans (r2.mono s1.size)
  replace hd := hd.below r2
  replace dR := dR.below r2
  replace hw := hw.below r2
  replace q0 := below_cell r2 q0
  replace q1 := below_cell r2 q1
  replace q2 := below_cell r2 q2
  replace q3 := below_cell r2 q3
  replace ra0 := below_cell r2 ra0
  replace ra1 := below_cell r2 ra1
  replace ra2 := below_cell r2 ra2
  replace ra3 := below_cell r2 ra3
  replace lB := Nat.lt_of_lt_of_le lB r2.size
  replace lr := Nat.lt_of_lt_of_le lr r2.size
  replace dP := dP.below r2
  clear dP
  go_wp2_with fail
  go_at_call 19
  refine (account_eq (n : Int) rate keeps ds ad cd _ dR SM).mono ?_
  rintro e y3 ⟨⟨aQ, cQ, rfl, dQ⟩, e3⟩
  have r3 : Below y2.heap.size y2 y3 := by (repeat (first | exact Below.refl _ _ | refine Below.alloc ?_ (by first | omega | (simp; done) | (simp; omega)) _ | refine Below.drew ?_ | refine Below.setCell ?_ (by first | omega | (simp; done) | (simp; omega)) _ | refine Below.trans ?_ (Below.mono (by assumption) (by first | omega | (simp; done) | (simp; omega)))))
  have s3 : Below X7.heap.size X7 y3 := s2.trans (r3.mono s2.size)
  replace hd := hd.below r3
  replace dR := dR.below r3
  replace hw := hw.below r3
  replace q0 := below_cell r3 q0
  replace q1 := below_cell r3 q1
  replace q2 := below_cell r3 q2
  replace q3 := below_cell r3 q3
  replace ra0 := below_cell r3 ra0
  replace ra1 := below_cell r3 ra1
  replace ra2 := below_cell r3 ra2
  replace ra3 := below_cell r3 ra3
  replace lB := Nat.lt_of_lt_of_le lB r3.size
  replace lr := Nat.lt_of_lt_of_le lr r3.size
  replace iO := iO.below r3
  go_wp2_with fail
  go_at_call 40
  refine (bounds_eq (n : Int) rate keeps ds aQ cQ _ O H0 HO dQ SM).mono ?_
  rintro e y4 ⟨⟨aU, cU, rfl, iU⟩, e4⟩
  have r4 : Below y3.heap.size y3 y4 := by (repeat (first | exact Below.refl _ _ | refine Below.alloc ?_ (by first | omega | (simp; done) | (simp; omega)) _ | refine Below.drew ?_ | refine Below.setCell ?_ (by first | omega | (simp; done) | (simp; omega)) _ | refine Below.trans ?_ (Below.mono (by assumption) (by first | omega | (simp; done) | (simp; omega)))))
  have s4 : Below X7.heap.size X7 y4 := s3.trans (r4.mono s3.size)
  replace hd := hd.below r4
  replace dR := dR.below r4
  replace hw := hw.below r4
  replace q0 := below_cell r4 q0
  replace q1 := below_cell r4 q1
  replace q2 := below_cell r4 q2
  replace q3 := below_cell r4 q3
  replace ra0 := below_cell r4 ra0
  replace ra1 := below_cell r4 ra1
  replace ra2 := below_cell r4 ra2
  replace ra3 := below_cell r4 ra3
  replace lB := Nat.lt_of_lt_of_le lB r4.size
  replace lr := Nat.lt_of_lt_of_le lr r4.size
  replace iO := iO.below r4
  replace dQ := dQ.below r4
  clear dQ
  have nO : ((O.length : Int) != (O.length : Int)) = false := by simp
  have tY : Below w.heap.size w y4 := tX.trans (s4.mono tX.size)
  go_wp2_with fail
  go_loopw [16] (fun v X => ∃ j : Nat, j ≤ O.length ∧ v = .int .i64 j ∧ Below y4.heap.size y4 X) (fun v _ => O.length - (intOf v).toNat)
  case atStart => exact ⟨0, Nat.zero_le _, rfl, Below.refl _ _⟩
  case round =>
    obtain ⟨j, hj, rfl, hbX⟩ := hrel
    rename World => Z0
    by_cases hlt : j < O.length
    · have hjI : (j : Int) < (O.length : Int) := by omega
      obtain ⟨g1, o1, rfl, _, x1, x2⟩ := (iO.below hbX) j hlt
      obtain ⟨g2, o2, rfl, _, x3, x4⟩ := (iU.below hbX) j hlt
      have y1 := cell_ltK x1
      have y3 := cell_ltK x3
      obtain ⟨lo, hlo⟩ : ∃ z, O[j].1 = z := ⟨_, rfl⟩
      obtain ⟨mo, hmo⟩ : ∃ z, O[j].2 = z := ⟨_, rfl⟩
      rw [hlo] at x1 x3
      rw [hmo] at x2 x4
      clear hlo hmo
      go_wp2
      (refine wp_region_ext 9 (by kernel_rfl) (by kernel_rfl) ?_; simp only [List.take_succ_cons, List.take_zero, List.drop_succ_cons, List.drop_zero]; (repeat (go_big_quiet_step ((fail)))); refine wpQuiet_nil ?_; rintro _ ⟨ex, rfl⟩; have hex := ex.below; have hexz := ex.size; (try simp at hexz); (try (have hy0 : w.heap.size < ex.to.heap.size := by omega)); (try (have hy1 : w.heap.size + 1 < ex.to.heap.size := by omega)); (try (have hy2 : w.heap.size + 2 < ex.to.heap.size := by omega)))
      go_wp2
      go_roundw
      case rel => exact ⟨j + 1, by omega, by go_num, hbX.trans (ex.below.mono hbX.size)⟩
      case measure => simp [intOf]; omega
    · obtain rfl : j = O.length := by omega
      replace hw := hw.below hbX
      replace tY := tY.trans (hbX.mono tY.size)
      go_wp2_with fail
      go_at_call 41
      refine (owed_eq2 aw ws cw many L HL _ hw HU hwl hmy).mono ?_
      rintro e Z1 ⟨⟨aL, cL, rfl, iL, nL, fL⟩, bZ1⟩
      have u1 := tY.trans (bZ1.mono tY.size)
      go_wp2_with fail
      go_at_call 34
      refine (rBals_eq aL L cL _ 0 H0L iL lL).mono ?_
      rintro e _ ⟨rfl, rfl⟩
      obtain ⟨bL, oL, rfl, _⟩ := iL 0 (by omega)
      have hcL : k < cL := by omega
      have hcLI : (k : Int) ≤ (cL : Int) := by omega
      have hcL0 : ¬ cL - k = 0 := by omega
      have hcL1 : ¬ cL = 0 := by omega
      have hcL2 : ¬ cL = k := by omega
      have lcI : (L.length : Int) ≤ (cL : Int) := by omega
      have Hdl : Hid ((L.drop k).length = L.length - k) := Lib.hid (by simp)
      have Htl : Hid (((L.take k).map (Value.int .i64)).length = k * 1) := Lib.hid (by simp; omega)
      have own5 : True := trivial
      have bb5 : True := trivial
      go_upto_region 21 with fail
      go_region_held3 (fun _ => True) (exact trivial)
        (first
          | (refine step_app_some (by rfl) elInt Z1.heap.size _ _ (by rfl) _ _ _ _ (by rfl) own5 ⟨bL, oL, none⟩ k cL ((L.take k).map (Value.int .i64)) (by rfl) Htl.out (SrcAt.ints (take_ints (iL.below bb5) k)) (fun u hu => by obtain ⟨z, _, rfl⟩ := List.mem_map.1 hu; rfl) (by unfold maxLen; omega) (by omega) bb5.size ?_; intro a6 c6 w6 own6 b6; have bb6 := bb5.trans b6)
          | (go_at_call 22; (first | refine (list_own_n (some ⟨bL, oL + k, none⟩) (L.drop k) (L.length - k) (cL - k) Hdl.out _ (ints_drop iL k) (by omega) (fun h => by cases h)).mono ?_ | refine (list_own_n (some ⟨bL, oL + k, none⟩) (L.drop k) (L.length - k) (cL - k) Hdl.out _ (ints_drop (iL.below ((Below.refl _ _).drew)) k) (by omega) (fun h => by cases h)).mono ?_); rintro e w5 ⟨⟨a5, c5, rfl, own5'⟩, bb5'⟩; have bb5 : Below Z1.heap.size Z1 w5 := (by first | exact bb5' | exact Below.trans (Below.drew (Below.refl _ _)) bb5'); have own5 : OwnL 3 1 Z1.heap.size w5 a5 c5 (L.length - k) ((L.drop k).map (Value.int .i64)) := own5'))
      rw [HML.out] at own6 ⊢
      rw [← List.map_append, HM.out] at own6
      have i6 := own6.ints.1
      have n6 : a6 = none → c6 = 0 := fun h => by subst h; exact own6.isnil.2
      have u2 := u1.trans (bb6.mono u1.size)
      replace iL := iL.below bb6
      go_wp2_with fail
      go_at_call 22
      refine (list_eq _ _ L cL iL lL nL).mono ?_
      rintro e Z3 ⟨⟨a7, c7, rfl, i7, n7⟩, b7⟩
      have u3 := u2.trans (b7.mono u2.size)
      replace i6 := i6.below b7
      go_wp2_with fail
      go_at_call 31
      refine (settle_eq a7 L c7 _ SL H0L HSL i7 n7).mono ?_
      rintro e Z4 ⟨⟨a8, c8, rfl, -⟩, b8⟩
      have u4 := u3.trans (b8.mono u3.size)
      replace i6 := i6.below b8
      go_wp2_with fail
      go_at_call 31
      refine (settle_eq a6 M c6 _ SM' H0M HSM i6 n6).mono ?_
      rintro e Z5 ⟨⟨a9, c9, rfl, -⟩, b9⟩
      have u5 := u4.trans (b9.mono u4.size)
      go_wp2_with fail
      go_at_call 17
      refine (awake_any _).mono ?_
      rintro e Z6 ⟨rfl, b10⟩
      go_wp2_with fail
      go_ret
      exact ⟨rfl, u5.trans (b10.mono u5.size)⟩
theorem order_b (st rate keeps : Int) (ds : List Dis) (ad : Option Addr) (cd : Nat) (aw : Option Addr) (ws : List Int) (cw : Nat) (mv bv : Int) (w : World) (hd : DisAt w ad ds) (big : AccBig ds) (nd : ad = none → cd = 0) (lc : ds.length ≤ cd) (hw : U16At w aw ws) (nw : aw = none → cw = 0) (lw : ws.length ≤ cw) (mw : cw ≤ maxLen) (hu : ∀ n ∈ ws, 0 ≤ n ∧ n ≤ 65535) (hmv : 0 ≤ mv ∧ mv ≤ 255) (hbv : 0 ≤ bv ∧ bv ≤ 255) (hT : thinB ds = true) (h0 : accErr ⟨st, rate, keeps, ds⟩ = 0) :
    Calls Try.prog 9 #[.agg #[.int .i64 st, .int .i64 rate, .int .i64 keeps, .slice ad ds.length cd], .slice aw ws.length cw, .int .u8 mv, .int .u8 bv] w fun e w' => e = .returned (.bool true) ∧ Below w.heap.size w w' := by
  by_cases hz : ds.length = 0
  · exact order_b0 st rate keeps ds ad cd aw ws cw mv bv w hd big nd lc hw nw lw mw hu hmv hbv hT h0 hz
  · exact order_b1 st rate keeps ds ad cd aw ws cw mv bv w hd big nd lc hw nw lw mw hu hmv hbv hT h0 hz
theorem order_walk (st rate keeps : Int) (ds : List Dis) (ad : Option Addr) (cd : Nat) (aw : Option Addr) (ws : List Int) (cw : Nat) (mv bv : Int) (w : World) (hd : DisAt w ad ds) (big : AccBig ds) (nd : ad = none → cd = 0) (lc : ds.length ≤ cd) (hw : U16At w aw ws) (nw : aw = none → cw = 0) (lw : ws.length ≤ cw) (mw : cw ≤ maxLen) (hu : ∀ n ∈ ws, 0 ≤ n ∧ n ≤ 65535) (hmv : 0 ≤ mv ∧ mv ≤ 255) (hbv : 0 ≤ bv ∧ bv ≤ 255) :
    Calls Try.prog 9 #[.agg #[.int .i64 st, .int .i64 rate, .int .i64 keeps, .slice ad ds.length cd], .slice aw ws.length cw, .int .u8 mv, .int .u8 bv] w fun e w' => e = .returned (.bool true) ∧ Below w.heap.size w w' := by
  by_cases hT : thinB ds = true
  · by_cases h0 : accErr ⟨st, rate, keeps, ds⟩ = 0
    · exact order_b st rate keeps ds ad cd aw ws cw mv bv w hd big nd lc hw nw lw mw hu hmv hbv hT h0
    · exact order_a2 st rate keeps ds ad cd aw ws cw mv bv w hd big nd lc hw nw lw mw hu hmv hbv hT h0
  · exact order_a1 st rate keeps ds ad cd aw ws cw mv bv w hd big nd lc hw nw lw mw hu hmv hbv (by simpa using hT)
end Go.Proofs.Ytomjlmhnjgohdaa
