/- book: Resume -/
import Derived.Test.YticjeianiahppaaGreatDoorGo
namespace Go.Proofs.YticjeianiahppaaGreatDoor
set_option linter.unusedVariables false
set_option linter.unusedSimpArgs false
set_option linter.unnecessarySimpa false
open Go.RowKit Go.Flow
/-- The lines of a file that goes on. -/
def contL (R more : List ByteArray) : List ByteArray := R ++ zB0 (zBa BSt.begun R) more
theorem contL_nil (R : List ByteArray) : contL R [] = R := by unfold contL zB0; rw [List.append_nil]
theorem contL_snoc (R more : List ByteArray) (s : ByteArray) : contL R (more ++ [s]) = contL R more ++ (if zBb (zBa (zBa BSt.begun R) more) s = 0 then [s] else []) := by
  unfold contL
  rw [zM4, List.append_assoc]
theorem contL_len (R more : List ByteArray) : (contL R more).length ≤ R.length + more.length := by
  unfold contL
  rw [List.length_append]
  have := zOG (zBa BSt.begun R) more
  omega
theorem contL_80 {R more : List ByteArray} (hR : ∀ s ∈ R, s.size ≤ 80) (hm : ∀ s ∈ more, s.size ≤ 80) : ∀ s ∈ contL R more, s.size ≤ 80 := fun s h => by
  unfold contL at h
  rcases List.mem_append.1 h with h | h
  · exact hR s h
  · exact hm s (zQ1 _ _ s h)
theorem mask_low {hd hd' g : Nat} (w : World) (hl : hd' ≤ g) : mask hd g (mask hd' g w) = mask hd g w := by
  have hh : (mask hd g (mask hd' g w)).heap = (mask hd g w).heap := by
    apply Array.ext_getElem?
    intro i
    rw [zBS, zBS, zBS]
    cases w.heap[i]? with
    | none => rfl
    | some o =>
      simp only [Option.map_some]
      by_cases e : i ≤ g
      · rw [if_pos (.inl e), if_pos (.inl e)]
      · have : ¬ (i ≤ g ∨ i = hd') := by omega
        rw [if_neg this]
  have h2 : ∀ w : World, mask hd g w = { w with heap := (mask hd g w).heap } := fun _ => rfl
  rw [h2, hh]; rfl
/-- A state beside a list that lies below it. -/
theorem StAt.to_low {hd hd' g : Nat} {w : World} {S : BSt} {A : Adr} (h : StAt hd w g S A) (hl : hd' ≤ g) : StAt hd' w g S A :=
  ⟨h.cells, Lists.unmask (hd := hd) (g := g) (by rw [zAJ]; exact h.lt) (by rw [zAJ]; exact h.old) (by rw [mask_low w hl]; exact h.lists), Nat.lt_of_le_of_lt hl h.lt⟩
theorem OwnL.keepG_ne {E : TypeId} {size base g : Nat} {w w' : World} {a : Option Addr} {c n : Nat} {xs : List Value} (h : OwnL E size base w a c n xs) (hb : ∀ x, a = some x → x.block ≠ g) (k : KeepG g w w') : OwnL E size base w' a c n xs := by
  refine ⟨h.1, ?_⟩
  rcases h.2 with h1 | ⟨g', cap, cur, hv, hbg, hg, hnc, hcm, hcs, ht⟩
  · exact .inl h1
  · have hC : Cells w g' cur E := hg
    have hne : g' ≠ g := by
      injection hv with e1 e2 e3
      exact hb _ e1
    exact .inr ⟨g', cap, cur, hv, hbg, k.cells hne hC, hnc, hcm, hcs, ht⟩
section
variable {P : Program} {t E : TypeId} {z : Value} {size bytes : Nat} {ops : Array Oper} {rest : List Oper} {o : Oper} {a : Act} {Q : Exit → Act → World → Prop}
/-- 'append(out, x)' to an own list beside a state, wherever the list lies. -/
theorem wpList_app_st {W : World} {cs : Array Value} {E2 : TypeId} (el : Elem P t E z size bytes) (hgd : o.guard = none) (s x : Operand) (ho : o.op = .call { callee := .builtin .append, args := #[s, x], argTypes := #[t, t] })
    (base : Nat) (a0 : Option Addr) (n c0 : Nat) (xs : List Value) (hs : a.eval s = .slice a0 n c0) (hown : OwnL E size base W a0 c0 n xs)
    (m c : Nat) (hx : a.eval x = .slice (some ⟨W.heap.size, 0, none⟩) m c) (hl : cs.size = m * size) (h1 : ∀ u ∈ cs.toList, u.oneCell' = true)
    (h63 : n + m ≤ maxLen) (hbytes : (n + m) * bytes ≤ 140737488355328) (hbase : base ≤ W.heap.size)
    (h : ∀ a' c' w', OwnL E size base w' a' c' (n + m) (xs ++ cs.toList) → Below base W w' →
      (∀ g S A, (∀ x, a0 = some x → x.block ≠ g) → StAt (zEi g a0) W g S A → StAt (zEi g a') w' g S A ∧ ∀ x, a' = some x → x.block ≠ g) → wpList P ops Q rest (a.put o.dst (.slice a' (n + m) c')) w') :
    wpList P ops Q (o :: rest) a (W.alloc (.cells cs E2)) := by
  obtain ⟨i, hi, hz0, hz1, hz2⟩ := el.info
  refine wpList_append_own_at _ hgd s x t ho base E i z size bytes el.slice hi hz0 hz1 hz2 el.cells el.pos (.slice a0 n c0) n xs hs (hown.alloc _) ⟨W.heap.size, 0, none⟩ m c cs.toList hx (by simpa using hl) ?_ h1 h63 hbytes (by simp; omega) ?_
  · intro j u hu
    rw [addr_add, World.cell?_alloc_at _ _ _ _ rfl, Nat.zero_add]
    simpa using hu
  · intro v' w' h2 h3 h4 h5
    have hv : ∃ a' c', v' = .slice a' (n + m) c' := by
      rcases h2.2 with ⟨rfl, hnm⟩ | ⟨g, cap, cur, rfl, _⟩
      · exact ⟨none, 0, by rw [hnm]⟩
      · exact ⟨_, _, rfl⟩
    obtain ⟨a', c', rfl⟩ := hv
    have hb : Below base W w' := ((Below.refl base W).alloc hbase _).trans (zAz (hown.alloc _) (by simp; omega) h3)
    have o2 : OwnL E size base w' a' c' (n + m) (xs ++ cs.toList) := h2
    have hz : W.heap.size + 1 ≤ w'.heap.size := by have := h3.size; simpa using this
    refine h a' c' w' o2 hb ?_
    intro g S A hne st
    have hlt := st.lt
    have hold := st.old
    have h6 : zEi g a' < w'.heap.size ∧ (zEi g a' = zEi g a0 ∨ W.heap.size ≤ zEi g a' ∨ zEi g a' = g) ∧ ∀ x, a' = some x → x.block ≠ g := by
      cases a' with
      | none => exact ⟨by show g < _; omega, .inr (.inr rfl), fun x e => by cases e⟩
      | some x' =>
        refine ⟨o2.old rfl, ?_⟩
        rcases h5 with h5 | h5
        · cases a0 with
          | none => simp [Value.ownBlock] at h5
          | some x0 =>
            simp [Value.ownBlock] at h5
            exact ⟨.inl h5, fun x e => by cases e; rw [h5]; exact hne x0 rfl⟩
        · simp [Value.ownBlock] at h5
          exact ⟨.inr (.inl (by show _ ≤ x'.block; omega)), fun x e => by cases e; omega⟩
    have other : ∀ k, k < W.heap.size → (∀ x, a0 = some x → x.block ≠ k) → w'.heap[k]? = W.heap[k]? := fun k hk hk2 => by
      rw [h3.block k (by simp; omega) ?_, ((Below.refl W.heap.size W).alloc (Nat.le_refl _) _).block k hk]
      intro e
      cases a0 with
      | none => simp [Value.ownBlock] at e
      | some x0 =>
        simp [Value.ownBlock] at e
        exact hk2 x0 rfl (by omega)
    refine ⟨⟨(other g hlt hne).trans st.cells, Lists.unmask (hd := zEi g a0) (g := g) (by rw [zAJ]; omega) (by rw [zAJ]; omega) (st.lists.below ?_), h6.1⟩, h6.2.2⟩
    rw [zAJ]
    refine ⟨hb.os, hb.tape, hb.output, by simp only [zAJ]; omega, fun k hk => ?_⟩
    by_cases e1 : k ≤ g ∨ k = zEi g a0
    · rw [zAj e1 hk, zAj e1 (by rw [zAJ]; omega)]
    · have e2 : k ≠ zEi g a0 := fun e => e1 (.inr e)
      have h62 := h6.2.1
      rw [zB4 W (by omega) e2, zB4 _ (by omega) e2, zB4 w' (by omega) (by omega), other k hk fun x e => by subst e; exact fun h => e2 h.symm]
end
/-- What Resume makes of lines that are read, and more of them. -/
def ResumePost (B : Nat) (R more : List ByteArray) (e : Ending) (w' : World) : Prop :=
  (zBF more = 0 ∧ (contL R more).length ≤ 50 ∧ ∃ ae ce, e = .returned (.tuple #[.slice ae (zDT (contL R more)).length ce, .int .i64 0]) ∧ OwnL 5 1 B w' ae ce (zDT (contL R more)).length (zDB (zDT (contL R more)))) ∨
  ((zBF more = 3 ∨ zBF more = 0 ∧ 50 < (contL R more).length) ∧ e = .returned (.tuple #[.slice none 0 0, .int .i64 3]))
set_option maxRecDepth 100000 in
set_option maxHeartbeats 4000000 in
theorem Resume_any (ab : Option Addr) (cb m : Nat) (am : Option Addr) (cm : Nat) (B : List UInt8) (R more : List ByteArray) (w : World) (en : B.length = m) (hm : m ≤ 9000) (hc : m ≤ cb) (hsB : SrcAt w ab (zDB B)) (hr : readL 50 B 0 = zG9 R)
    (hR8 : ∀ s ∈ R, s.size ≤ 80) (hR5 : R.length ≤ 50) (hl : zAs w am more) (hn : more.length ≤ 9223372036854775807) (hv : Vars w) :
    Calls Tryz.prog 71 #[.slice ab m cb, .slice am more.length cm] w fun e w' => ResumePost w.heap.size R more e w' ∧ Below w.heap.size w w' := by
  have chk := zET am cm more w hl hn
  have h8 := hv.lt
  go_enter Tryz.func71, Tryz.ntmps71
  go_wp2_with fail
  go_at_call 81
  refine chk.mono ?_
  rintro e w1 ⟨rfl, b1⟩
  rcases zFN more with h0 | h0
  rotate_left
  · rw [h0]
    have H0 := Lib.hid h0
    clear h0
    go_wp2
    go_ret2
    exact ⟨.inr ⟨.inl H0.out, rfl⟩, b1⟩
  rw [h0]
  have H0 := Lib.hid h0
  clear h0
  obtain ⟨h50, hs⟩ := zFM H0.out
  go_wp2_with fail
  go_at_call 67
  refine (Recover_as ab cb m R.length _ B R w1 en hm hc (zAO hsB b1) (hv.below b1) hr rfl rfl).mono ?_
  rintro e w2 ⟨⟨a2, c2, rfl, o2⟩, b2⟩
  have t2 := b1.trans (b2.mono b1.size)
  go_wp2_with fail
  go_at_call 82
  refine (zJc a2 c2 R w2 o2.strs (fun s h => by have := hR8 s h; omega) (by omega) (hv.below t2)).mono ?_
  rintro e w3 ⟨g, ae, ce, A, rfl, hg, st, _, b3⟩
  have t3 := t2.trans (b3.mono t2.size)
  have o3 := (o2.kept b3).base_le b1.size
  have st3 : StAt (zEi g a2) w3 g (zBa BSt.begun R) A := st.to_low (by
    cases a2 with
    | none => exact Nat.le_refl _
    | some x => have := o2.old rfl; show x.block ≤ g; omega)
  have ne3 : ∀ x, a2 = some x → x.block ≠ g := fun x e => by have := o2.old e; omega
  clear st o2 b1 b2 b3 chk
  have hg8 : 8 ≤ g := by have := t2.size; omega
  have hgw : w.heap.size ≤ g := by have := t2.size; omega
  go_wp2_with fail
  go_loopw [7, 12, 30] (fun ln _ i X => ∃ (k : Nat) (A : Adr) (a' : Option Addr) (c' : Nat), k ≤ more.length ∧ i = .int .i64 k ∧ ln = .slice a' (contL R (more.take k)).length c' ∧ StAt (zEi g a') X g (zBa (zBa BSt.begun R) (more.take k)) A ∧ OwnL 9 1 w.heap.size X a' c' (contL R (more.take k)).length ((contL R (more.take k)).map Value.string) ∧ (∀ x, a' = some x → x.block ≠ g) ∧ Below w.heap.size w X) (fun _ _ i _ => more.length - (intOf i).toNat)
  case atStart =>
    refine ⟨0, A, a2, c2, Nat.zero_le _, rfl, ?_, st3, ?_, ne3, t3⟩
    · rw [List.take_zero, contL_nil]
    · rw [List.take_zero, contL_nil]; exact o3
  case round =>
    obtain ⟨k, A1, a', c', hk, rfl, rfl, st, own, ne, bX⟩ := hrel
    by_cases hlt : k < more.length
    · have hltI : (k : Int) < (more.length : Int) := by omega
      have hk0 : (0 : Int) ≤ (k : Int) := by omega
      have iw : IntKind.i64.wrap ((k : Int) + 1) = (k : Int) + 1 := IntWalk.i64_in _ (by omega)
      obtain ⟨b, off, ha, hbl, hc⟩ := (hl.below bX) k hlt
      subst ha
      have line := zNy g _ A1 more[k] (by have := hs _ (List.getElem_mem hlt); omega) wr st (zHM (zHM Few.begun _) _) (hv.below bX) hg8
      have eS : zAy (zBa (zBa BSt.begun R) (more.take k)) more[k] = zBa (zBa BSt.begun R) (more.take (k + 1)) := by rw [List.take_succ_eq_append_getElem hlt, zKW]
      have hks := contL_snoc R (more.take k) more[k]
      rw [← List.take_succ_eq_append_getElem hlt] at hks
      have hkl := contL_len R (more.take k)
      rw [List.length_take] at hkl
      obtain ⟨E, hE⟩ : ∃ E, zBb (zBa (zBa BSt.begun R) (more.take k)) more[k] = E := ⟨_, rfl⟩
      rw [hE] at hks
      unfold zD9 at line
      rw [hE] at line
      rw [eS] at line
      clear hE eS
      generalize more[k] = s at hc hks line
      obtain ⟨K, hK⟩ : ∃ K, contL R (more.take k) = K := ⟨_, rfl⟩
      rw [hK] at own hks hkl ⊢
      have Hks := Lib.hid hks
      clear hks hK
      go_wp2_with fail
      go_at_call 125
      refine line.mono ?_
      rintro e w4 ⟨rfl, kg, A2, st4⟩
      have own4 := own.keepG_ne ne kg
      have b4 := bX.trans (kg.under hgw)
      have z4 : w.heap.size ≤ w4.heap.size := b4.size
      by_cases hz : E = 0
      · subst hz
        go_wp2_with (at_builtin; refine wpList_app_st zIN rfl _ _ rfl w.heap.size a' K.length c' _ rfl own4 1 1 rfl rfl (fun u hu => ?c1) ?c2 ?c3 ?c4 ?_)
        case c1 => simp at hu; subst hu; rfl
        case c2 => unfold maxLen; omega
        case c3 => omega
        case c4 => exact z4
        intro a5 c5 w5 own5 b5 hst
        obtain ⟨st5, ne5⟩ := hst g _ _ ne st4
        go_wp2_with fail
        go_round
        case rel =>
          refine ⟨k + 1, A2, a5, c5, by omega, by go_num, ?_, st5, ?_, ne5, b4.trans b5⟩
          · rw [Hks.out]; simp
          · rw [Hks.out]; simpa using own5
        case measure => simp [intOf]; omega
      · have hzb : (E == 0) = false := by simpa using hz
        go_wp2_with fail
        go_round
        case rel =>
          refine ⟨k + 1, A2, a', c', by omega, by go_num, ?_, st4, ?_, ne, b4⟩
          · rw [Hks.out, if_neg hz, List.append_nil]
          · rw [Hks.out, if_neg hz, List.append_nil]; exact own4
        case measure => simp [intOf]; omega
    · obtain rfl : k = more.length := by omega
      rw [List.take_length] at own
      simp only [List.take_length]
      have h80 := contL_80 hR8 hs
      have hlen := contL_len R more
      obtain ⟨K, hK⟩ : ∃ K, contL R more = K := ⟨_, rfl⟩
      rw [hK] at own h80 hlen ⊢
      replace hK := Lib.hid hK
      by_cases h5 : K.length ≤ 50
      · have h5I : ¬ (50 : Int) < (K.length : Int) := by omega
        go_wp2_with fail
        go_at_call 122
        refine (zOO a' c' K wr own.strs (by omega) h80).mono ?_
        rintro e w6 ⟨⟨a6, c6, rfl, o6⟩, b6⟩
        go_wp2
        go_ret2
        exact ⟨.inl (by rw [hK.out]; exact ⟨H0.out, h5, a6, c6, rfl, o6.base_le bX.size⟩), bX.trans (b6.mono bX.size)⟩
      · have h5I : (50 : Int) < (K.length : Int) := by omega
        go_wp2
        go_ret2
        exact ⟨.inr ⟨.inr ⟨H0.out, by rw [hK.out]; omega⟩, rfl⟩, bX⟩
end Go.Proofs.YticjeianiahppaaGreatDoor
