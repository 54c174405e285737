/- flash: the row behind several signs -/
import Derived.Test.YtnofcpihkglmmaaFg
namespace Go.Proofs.Ytnofcpihkglmmaa
set_option linter.unusedVariables false
set_option linter.unusedSimpArgs false
set_option linter.unnecessarySimpa false
open Go.RowKit Go.Flow
theorem bytes_conv (s : ByteArray) (L : List UInt8) (hL : s.data.toList = L) (W : World) : ∃ (W2 : World) (cc : Nat), Sem.run Try.prog (convert 9 118 (.string s)) W = .ok (.slice (some ⟨W.heap.size, 0, none⟩) L.length cc) W2 ∧ BytsAt W2 (some ⟨W.heap.size, 0, none⟩) L ∧ Below W.heap.size W W2 ∧ W.heap.size < W2.heap.size := by
  have hLs : L.length = s.size := by rw [← hL]; simp
  have hcv := run_bytes_of_string (P := Try.prog) W 9 118 5 s Try.underlying9 Try.underlying118 Try.underlying5
  have bb : Below W.heap.size W (W.drew.alloc (.cells (bytesRow s (grownCap W s.size 0 5)) 5 ((bytesRow s (grownCap W s.size 0 5)).size, (bytesRow s (grownCap W s.size 0 5)).size + 1))) := ((Below.refl _ _).drew).alloc (Nat.le_refl _) _
  refine ⟨_, _, by rw [hLs]; exact hcv, fun k hk => ⟨W.heap.size, 0, rfl, by simp [World.alloc], ?_⟩, bb, by simp [World.alloc]⟩
  have hk2 : k < s.data.size := by have h2 : s.size = s.data.size := rfl; omega
  have e : L[k] = s.data[k] := by subst hL; simp
  rw [Nat.zero_add, cell_of_row _ W.heap.size k _ _ _ (heap_alloc_new W.drew _), bytesRow_at s _ k hk2, e]
theorem gives_load_row {P : Program} {o : Oper} {a : Act} {w : World} {S : Value → World → Prop} (ty : TypeId) (x : Operand) (ho : o.op = .load ty x)
    (g : Nat) (hx : a.eval x = .pointer (some ⟨g, 0, none⟩)) (t : TypeId) (cs : Array Value) (fr : Nat × Nat) (d : TypeDesc) (hg : w.heap[g]? = some (.cells cs t fr))
    (hu : P.underlying ty = some d) (hd : (match d with | .struct _ | .array _ _ => true | _ => false) = true) (hi : (P.info? ty).map (·.size) = some cs.size)
    (h : S (.agg cs) w) : o.gives P a w S := by
  unfold Oper.gives execOp
  simp only [ho, hx, Instr.loadAt, Instr.sureAddr, Sem.run_bind, Sem.run_pure, Result.andThen_ok, run_loadVar_row w g t ty cs fr d hg hu hd hi]
  exact h
theorem Cells.setRow {w : World} {g : Nat} {old cs : Array Value} {T : TypeId} (h : Cells w g old T) : Cells (w.setRow g cs) g cs T := setRow_heap _ _ _ _ _ _ h
theorem Cells.setRow_other {w : World} {g k : Nat} {cs' cs : Array Value} {T : TypeId} (h : Cells w k cs' T) (hne : k ≠ g) : Cells (w.setRow g cs) k cs' T := (Go.setRow_other w g k cs hne).trans h
section
variable (a : Option Addr) (n c : Nat) (s : ByteArray) (errs : Int) (w : World) (r : Nat → Int) (hr : RowOk r) (sg : ByteArray) (hsg : sg.size ≤ 1000000)
include hr hsg
set_option maxRecDepth 100000 in
set_option maxHeartbeats 2000000 in
theorem after_any : Calls Try.prog 77 #[.agg #[.slice a n c, .string s, .int .i64 errs], .agg (rowA r), .string sg] w fun e w' => e = .returned (.agg (rowA (aftF s.data.toList sg.data.toList r (fun _ => 0) 32))) ∧ Below w.heap.size w w' := by
  obtain ⟨L, hL⟩ : ∃ L, s.data.toList = L := ⟨_, rfl⟩
  obtain ⟨S, hS⟩ : ∃ S, sg.data.toList = S := ⟨_, rfl⟩
  have hcv := bytes_conv sg S hS
  have hSl : S.length ≤ 1000000 := by have : S.length = sg.size := by rw [← hS]; simp
                                      omega
  have hsign := fun (w : World) (r b : Nat → Int) (hr : RowOk r) (hb : RowOk b) (l g : UInt8) => sign_any a n c s errs w r b hr hb l g
  rw [hL] at hsign
  rw [hL, hS]
  have HR := Lib.hid hr
  clear hL hS hr hsg
  go_enter Try.func77, Try.ntmps77
  go_wp2_with fail
  obtain ⟨W0, hW0⟩ : ∃ z : World, z = (((w.alloc (.cells #[.slice a n c, .string s, .int .i64 errs] 99)).alloc (.cells (rowA r) 121)).alloc (.cells #[.int .i64 0, .int .i64 0, .int .i64 0, .int .i64 0, .int .i64 0, .int .i64 0, .int .i64 0, .int .i64 0, .int .i64 0, .int .i64 0, .int .i64 0, .int .i64 0, .int .i64 0, .int .i64 0, .int .i64 0, .int .i64 0, .int .i64 0, .int .i64 0, .int .i64 0, .int .i64 0, .int .i64 0, .int .i64 0, .int .i64 0, .int .i64 0, .int .i64 0, .int .i64 0, .int .i64 0, .int .i64 0, .int .i64 0, .int .i64 0, .int .i64 0, .int .i64 0, .int .i64 0, .int .i64 0, .int .i64 0, .int .i64 0, .int .i64 0, .int .i64 0, .int .i64 0, .int .i64 0, .int .i64 0] 121)).alloc (.cells #[.int .i64 0, .int .i64 0, .int .i64 0, .int .i64 0, .int .i64 0, .int .i64 0, .int .i64 0, .int .i64 0, .int .i64 0, .int .i64 0, .int .i64 0, .int .i64 0, .int .i64 0, .int .i64 0, .int .i64 0, .int .i64 0, .int .i64 0, .int .i64 0, .int .i64 0, .int .i64 0, .int .i64 0, .int .i64 0, .int .i64 0, .int .i64 0, .int .i64 0, .int .i64 0, .int .i64 0, .int .i64 0, .int .i64 0, .int .i64 0, .int .i64 0, .int .i64 0, .int .i64 0, .int .i64 0, .int .i64 0, .int .i64 0, .int .i64 0, .int .i64 0, .int .i64 0, .int .i64 0, .int .i64 0] 121) := ⟨_, rfl⟩
  have b0 : Below w.heap.size w W0 := by rw [hW0]; (repeat (first | exact Below.refl _ _ | refine Below.alloc ?_ (by first | omega | (simp; done) | (simp; omega)) _ | refine Below.drew ?_ | refine Below.setCell ?_ (by first | omega | (simp; done) | (simp; omega)) _ | refine Below.trans ?_ (Below.mono (by assumption) (by first | omega | (simp; done) | (simp; omega)))))
  have z0 : W0.heap.size = w.heap.size + 1 + 1 + 1 + 1 := by rw [hW0]; simp
  have K0 : Cells W0 w.heap.size #[.slice a n c, .string s, .int .i64 errs] 99 := by rw [hW0]; exact (((Cells.new _ _ _).alloc _).alloc _).alloc _
  have R0 : Cells W0 (w.heap.size + 1) (rowA r) 121 := by rw [hW0]; exact ((Cells.new' _ _ _ _ (by simp)).alloc _).alloc _
  have O0 : Cells W0 (w.heap.size + 1 + 1) (rowA (fun _ => 0)) 121 := by rw [hW0, zero_row]; exact (Cells.new' _ _ _ _ (by simp)).alloc _
  have B0 : Cells W0 (w.heap.size + 1 + 1 + 1) (rowA (fun _ => 0)) 121 := by rw [hW0, zero_row]; exact Cells.new' _ _ _ _ (by simp)
  rw [← hW0]
  clear hW0
  obtain ⟨W2, cc, hc2, hby, hb2, hz2⟩ := hcv W0
  rw [hc2]
  simp only [Result.andThen]
  rw [z0] at hby hb2 hz2 ⊢
  rw [Oper.upon_value]
  clear hcv hc2
  go_wp2_with fail
  have K2 := K0.below (by rw [z0]; exact hb2)
  have R2 := R0.below (by rw [z0]; exact hb2)
  have O2 := O0.below (by rw [z0]; exact hb2)
  have B2 := B0.below (by rw [z0]; exact hb2)
  have bb2 : Below w.heap.size w W2 := b0.trans (hb2.mono (by omega))
  clear K0 R0 O0 B0 b0 z0 hb2
  go_loopw [8, 14] (fun l u X => ∃ (k : Nat) (rk bk : Nat → Int) (lk : UInt8), k ≤ S.length ∧ u = .int .i64 k ∧ l = .int .u8 (lk.toNat : Int) ∧ RowOk rk ∧ RowOk bk ∧ aftF L (S.drop k) rk bk lk = aftF L S r (fun _ => 0) 32 ∧ Below w.heap.size w X ∧ Cells X w.heap.size #[.slice a n c, .string s, .int .i64 errs] 99 ∧ Cells X (w.heap.size + 1) (rowA rk) 121 ∧ Cells X (w.heap.size + 1 + 1) (rowA (fun _ => 0)) 121 ∧ Cells X (w.heap.size + 1 + 1 + 1) (rowA bk) 121 ∧ BytsAt X (some ⟨w.heap.size + 1 + 1 + 1 + 1, 0, none⟩) S) (fun _ u _ => S.length - (intOf u).toNat)
  case atStart => exact ⟨0, r, _, 32, by omega, rfl, rfl, HR.out, zero_ok, rfl, bb2, K2, R2, O2, B2, hby⟩
  case round =>
    obtain ⟨k, rk, bk, lk, hk, rfl, rfl, hrk, hbk, haf, hbb, CT, CR, CO, CB, hS⟩ := hrel
    rename World => X
    by_cases hlt : k < S.length
    · have hkI : (k : Int) < (S.length : Int) := by omega
      obtain ⟨b', o', e', lq, q0⟩ := hS k hlt
      obtain ⟨rfl, rfl⟩ : w.heap.size + 1 + 1 + 1 + 1 = b' ∧ 0 = o' := by simpa using e'
      clear e'
      rw [Nat.zero_add] at q0
      have hdr : S.drop k = S[k] :: S.drop (k + 1) := (List.getElem_cons_drop hlt).symm
      rw [hdr, aftF] at haf
      obtain ⟨g, hg⟩ : ∃ g, S[k] = g := ⟨_, rfl⟩
      rw [hg] at q0 haf
      have HAf := Lib.hid haf
      have Hrk := Lib.hid hrk
      have Hbk := Lib.hid hbk
      clear hg hdr haf hrk hbk
      have k0I : (0 : Int) ≤ (k : Int) := by omega
      have p0 := CT.cell 0
      have p1 := CT.cell 1
      have p2 := CT.cell 2
      simp at p0 p1 p2
      have lt0 := CT.lt
      go_upto_region 6 with fail
      (refine wp_region_seq 7 [] [7, 8] 28 [true, false, false, true, true, false, false] [fun v _ => v = .agg (rowA rk), fun v _ => v = .agg (rowA bk), fun v _ => v = .agg (rowA (sgF L rk bk lk g)), fun v _ => v = .agg (rowA rk)] (by kernel_rfl) (by kernel_rfl) rfl (mono_cons (fun v w w' h hb => h) (mono_cons (fun v w w' h hb => h) (mono_cons (fun v w w' h hb => h) (mono_cons (fun v w w' h hb => h) mono_nil)))) ?_; simp only [pickOps, List.filterMap_cons, List.filterMap_nil, List.getElem?_toArray, List.getElem?_cons_succ, List.getElem?_cons_zero]; (repeat (refine wpFl_step _ rfl (fun w => (by go_simp; rfl)) ?_)); refine wpFl_nil ?_; simp only [maskOps, dummy, Act.put, List.setIfInBounds_toArray, List.set_cons_zero, List.set_cons_succ, List.take_succ_cons, List.take_zero, List.drop_succ_cons, List.drop_zero]; (repeat (refine wpQB_step (fun K hK => ?_); go_simp; first | (refine hK _ ?_; clear hK K) | (apply Exists.intro; refine ⟨fun ex => ?_, hK _ ?_⟩; (fail); clear hK K))); refine wpQB_nil ?_; simp only [relObl2, under, relEnd, and_true, List.nil_append, List.cons_append])
      refine ⟨⟨fun e => ?f1, fun e v1 h1 => ?f2, fun e v1 h1 v2 h2 => ?f3, fun e v1 h1 v2 h2 v3 h3 => ?f4⟩, fun e v1 h1 v2 h2 v3 h3 v4 h4 => ?fin⟩
      case f1 => exact gives_load_row 121 (.tmp 4) rfl (w.heap.size + 1) rfl 121 _ (0, 0) _ (CR.below e.below) Try.underlying121 rfl (by rw [rowA_size]; kernel_rfl) ⟨Below.refl _ _, rfl⟩
      case f2 => exact gives_load_row 121 (.tmp 7) rfl (w.heap.size + 1 + 1 + 1) rfl 121 _ (0, 0) _ (CB.below e.below) Try.underlying121 rfl (by rw [rowA_size]; kernel_rfl) ⟨Below.refl _ _, rfl⟩
      case f3 =>
        have e1 := h1 (by kernel_rfl)
        have e2 := h2 (by kernel_rfl)
        subst e1
        subst e2
        simp only [Act.put, List.setIfInBounds_toArray, List.set_cons_zero, List.set_cons_succ]
        go_simp
        go_at_call 90
        exact (hsign _ rk bk Hrk.out Hbk.out lk g).mono (by rintro _ _ ⟨rfl, hb⟩; exact ⟨hb, rfl⟩)
      case f4 =>
        simp only [Act.put, List.setIfInBounds_toArray, List.set_cons_zero, List.set_cons_succ]
        exact gives_load_row 121 (.tmp 4) rfl (w.heap.size + 1) rfl 121 _ (0, 0) _ (CR.below e.below) Try.underlying121 rfl (by rw [rowA_size]; kernel_rfl) ⟨Below.refl _ _, rfl⟩
      case fin =>
        subst h1
        subst h2
        subst h3
        subst h4
        simp only [Act.put, List.setIfInBounds_toArray, List.set_cons_zero, List.set_cons_succ]
        have heb := e.below
        have CT5 := CT.below heb
        have CR5 := CR.below heb
        have CO5 := CO.below heb
        have CB5 := CB.below heb
        have hS5 := hS.below heb
        have hb5 := hbb.trans (heb.mono hbb.size)
        obtain ⟨w5, hw5⟩ : ∃ x : World, x = e.to := ⟨_, rfl⟩
        rw [← hw5] at CT5 CR5 CO5 CB5 hS5 hb5 ⊢
        clear hw5 heb CT CR CO CB hS hbb q0 lq p0 p1 p2 lt0
        refine wpList_store_row rfl 121 (.tmp 4) (.tmp 23) rfl (w.heap.size + 1) (rowA (sgF L rk bk lk g)) rfl rfl 121 (rowA rk) CR5 (by rw [rowA_size]; kernel_rfl) (by rw [rowA_size, rowA_size]) (rowA_one _) ?_
        have CB6 : Cells (w5.setRow (w.heap.size + 1) (rowA (sgF L rk bk lk g))) (w.heap.size + 1 + 1 + 1) (rowA bk) 121 := CB5.setRow_other (by omega)
        refine wpList_store_row rfl 121 (.tmp 7) (.tmp 24) rfl (w.heap.size + 1 + 1 + 1) (rowA rk) rfl rfl 121 (rowA bk) CB6 (by rw [rowA_size]; kernel_rfl) (by rw [rowA_size, rowA_size]) (rowA_one _) ?_
        obtain ⟨X2, hX2⟩ : ∃ z : World, z = (w5.setRow (w.heap.size + 1) (rowA (sgF L rk bk lk g))).setRow (w.heap.size + 1 + 1 + 1) (rowA rk) := ⟨_, rfl⟩
        rw [← hX2]
        have hb6 : Below w.heap.size w X2 := by rw [hX2]; exact below_setRow (below_setRow hb5 (by omega) _) (by omega) _
        have CT6 : Cells X2 w.heap.size #[.slice a n c, .string s, .int .i64 errs] 99 := by rw [hX2]; exact (CT5.setRow_other (by omega)).setRow_other (by omega)
        have CR6 : Cells X2 (w.heap.size + 1) (rowA (sgF L rk bk lk g)) 121 := by rw [hX2]; exact CR5.setRow.setRow_other (by omega)
        have CO6 : Cells X2 (w.heap.size + 1 + 1) (rowA (fun _ => 0)) 121 := by rw [hX2]; exact (CO5.setRow_other (by omega)).setRow_other (by omega)
        have CB7 : Cells X2 (w.heap.size + 1 + 1 + 1) (rowA rk) 121 := by rw [hX2]; exact CB6.setRow
        have hS6 : BytsAt X2 (some ⟨w.heap.size + 1 + 1 + 1 + 1, 0, none⟩) S := fun j hj => by
          obtain ⟨b', o', e', l', c'⟩ := hS5 j hj
          obtain ⟨rfl, rfl⟩ : w.heap.size + 1 + 1 + 1 + 1 = b' ∧ 0 = o' := by simpa using e'
          exact ⟨_, _, rfl, by rw [hX2]; simpa using l', by rw [hX2, cell_setRow_other _ _ _ _ (show w.heap.size + 1 + 1 + 1 + 1 ≠ w.heap.size + 1 + 1 + 1 by omega), cell_setRow_other _ _ _ _ (show w.heap.size + 1 + 1 + 1 + 1 ≠ w.heap.size + 1 by omega)]; exact c'⟩
        clear hX2 CT5 CR5 CO5 CB5 CB6 hS5 hb5
        go_wp2
        go_roundw
        case rel => exact ⟨k + 1, _, _, g, by omega, by go_num, rfl, sgF_ok L _ _ _ _ Hrk.out Hbk.out, Hrk.out, HAf.out, hb6, CT6, CR6, CO6, CB7, hS6⟩
        case measure => simp [intOf]; omega
    · obtain rfl : k = S.length := by omega
      rw [List.drop_length, aftF] at haf
      go_upto_region 9 with fail
      go_step
      go_step
      refine wp_load_row 121 (.tmp 4) rfl (w.heap.size + 1) rfl 121 _ (0, 0) _ CR Try.underlying121 rfl (by rw [rowA_size]; kernel_rfl) ?_
      go_step
      go_step
      refine wp_store_row 121 (.tmp 6) (.tmp 27) rfl (w.heap.size + 1 + 1) _ rfl rfl 121 _ CO (by rw [rowA_size]; kernel_rfl) (by rw [rowA_size, rowA_size]) (rowA_one _) ?_
      go_wp2
      rw [haf] at *
      refine bodyPost_ret (v := .agg (rowA (aftF L S r (fun _ => 0) 32))) ?_ rfl ⟨rfl, below_setRow hbb (by omega) _⟩
      exact results_cell_row rfl _ _ (w.heap.size + 1 + 1) 121 _ (0, 0) _ rfl (setRow_heap _ _ _ _ _ _ CO) Try.underlying121 rfl (by rw [rowA_size]; kernel_rfl)
end
end Go.Proofs.Ytnofcpihkglmmaa
