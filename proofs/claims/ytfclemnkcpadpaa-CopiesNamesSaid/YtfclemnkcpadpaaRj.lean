/- copies: the law's Post -/
import Derived.Test.YtfclemnkcpadpaaRi
namespace Go.Proofs.Ytfclemnkcpadpaa
set_option linter.unusedVariables false
set_option linter.unusedSimpArgs false
set_option linter.unnecessarySimpa false
open Go.RowKit Go.Flow

theorem info_cleg : (Try.prog.info? 105).map (fun i => (i.zero, i.size, i.bytes)) = some (some (.agg #[.int .i64 0, .int .i64 0, .slice none 0 0]), 3, 40) := by kernel_rfl
theorem el_clegs : Elem Try.prog 106 105 (.agg #[.int .i64 0, .int .i64 0, .slice none 0 0]) 3 40 := ⟨Try.underlying106, info_parts info_cleg, rfl, by decide⟩
theorem info_croute : (Try.prog.info? 108).map (fun i => (i.zero, i.size, i.bytes)) = some (some (.agg #[.slice none 0 0, .bool false]), 2, 32) := by kernel_rfl
theorem el_croutes : Elem Try.prog 32 108 (.agg #[.slice none 0 0, .bool false]) 2 32 := ⟨Try.underlying32, info_parts info_croute, rfl, by decide⟩

def legV (l : Leg) (p : Option Addr × Nat) : List Value := [.int .i64 l.lo, .int .i64 l.hi, .slice p.1 l.asl.length p.2]
def routeV (r : Route) (p : Option Addr × Nat) : List Value := [.slice p.1 r.legs.length p.2, .bool r.lossy]
def AslOwn (B : Nat) (w : World) (p : Option Addr × Nat) (l : Leg) : Prop := OwnL 68 2 B w p.1 p.2 l.asl.length (flat2 l.asl)
def LegsOwn (B : Nat) (w : World) (p : Option Addr × Nat) (ls : List Leg) (n : Nat) : Prop := NestOwn 105 3 legV (AslOwn B) B w p.1 p.2 ls n
def RoutesOwn (B : Nat) (w : World) (p : Option Addr × Nat) (rs : List Route) (n : Nat) : Prop := NestOwn 108 2 routeV (fun w p r => LegsOwn B w p r.legs r.legs.length) B w p.1 p.2 rs n
theorem AslOwn.kept {B : Nat} {w w' : World} {p : Option Addr × Nat} {x : Leg} (h : AslOwn B w p x) (hb : Below w.heap.size w w') : AslOwn B w' p x := OwnL.kept h hb
theorem LegsOwn.kept {B : Nat} {w w' : World} {p : Option Addr × Nat} {l : List Leg} {n : Nat} (h : LegsOwn B w p l n) (hb : Below w.heap.size w w') : LegsOwn B w' p l n := NestOwn.kept h hb fun _ _ h => h.kept hb
theorem LegsOwn.base_le {B B' : Nat} {w : World} {p : Option Addr × Nat} {l : List Leg} {n : Nat} (h : LegsOwn B w p l n) (hb : B' ≤ B) : LegsOwn B' w p l n := (NestOwn.base_le h hb).sub fun _ _ h => OwnL.base_le h hb
theorem RoutesOwn.kept {B : Nat} {w w' : World} {p : Option Addr × Nat} {l : List Route} {n : Nat} (h : RoutesOwn B w p l n) (hb : Below w.heap.size w w') : RoutesOwn B w' p l n := NestOwn.kept h hb fun _ _ h => h.kept hb
theorem LegsOwn.at {B : Nat} {w : World} {p : Option Addr × Nat} {l : List Leg} (h : LegsOwn B w p l l.length) : LegsAt w p.1 l := fun k hk => by
  obtain ⟨g, q, ha, hlt, hs, hc⟩ := NestOwn.at h (fun _ _ => rfl) (by omega) k hk
  refine ⟨g, 0, q.1, q.2, ha, hlt, ?_, ?_, ?_, OwnL.recs2 hs⟩
  · have := hc 0 _ (by omega) rfl
    rw [Nat.zero_add]; simpa using this
  · have := hc 1 _ (by omega) rfl
    rw [Nat.zero_add]; simpa using this
  · have := hc 2 _ (by omega) rfl
    rw [Nat.zero_add]; simpa using this
theorem RoutesOwn.at {B : Nat} {w : World} {p : Option Addr × Nat} {l : List Route} (h : RoutesOwn B w p l l.length) : RoutesAt w p.1 l := fun k hk => by
  obtain ⟨g, q, ha, hlt, hs, hc⟩ := NestOwn.at h (fun _ _ => rfl) (by omega) k hk
  refine ⟨g, 0, q.1, q.2, ha, hlt, ?_, ?_, hs.at⟩
  · have := hc 0 _ (by omega) rfl
    rw [Nat.zero_add]; simpa using this
  · have := hc 1 _ (by omega) rfl
    rw [Nat.zero_add]; simpa using this
/-- A store into a block of another type. -/
theorem OwnL.setAt {E : TypeId} {size B : Nat} {w : World} {a : Option Addr} {c n : Nat} {xs : List Value} (h : OwnL E size B w a c n xs) {g : Nat} {cs : Array Value} {T : TypeId} (hc : Cells w g cs T) (hte : T ≠ E) (k : Nat) (v : Value) : OwnL E size B (w.setCell ⟨g, k, none⟩ v) a c n xs :=
  h.moved (by simp) (fun b hb => Below.heap_setCell w ⟨g, k, none⟩ v b hb) (hc.not_row hte h)
theorem LegsOwn.setAt {B : Nat} {w : World} {p : Option Addr × Nat} {l : List Leg} {n : Nat} (h : LegsOwn B w p l n) {g : Nat} {cs : Array Value} {T : TypeId} (hc : Cells w g cs T) (h1 : T ≠ 105) (h2 : T ≠ 68) (k : Nat) (v : Value) : LegsOwn B (w.setCell ⟨g, k, none⟩ v) p l n := by
  obtain ⟨ps, q1, q2, q3⟩ := h
  exact ⟨ps, q1, q2.setAt hc h1 k v, fun q x p hx hp => OwnL.setAt (q3 q x p hx hp) hc h2 k v⟩
theorem RoutesOwn.setAt {B : Nat} {w : World} {p : Option Addr × Nat} {l : List Route} {n : Nat} (h : RoutesOwn B w p l n) {g : Nat} {cs : Array Value} {T : TypeId} (hc : Cells w g cs T) (h0 : T ≠ 108) (h1 : T ≠ 105) (h2 : T ≠ 68) (k : Nat) (v : Value) : RoutesOwn B (w.setCell ⟨g, k, none⟩ v) p l n := by
  obtain ⟨ps, q1, q2, q3⟩ := h
  exact ⟨ps, q1, q2.setAt hc h0 k v, fun q x p hx hp => (q3 q x p hx hp).setAt hc h1 h2 k v⟩
def AslV (lo hi : Int) (n B : Nat) (xs : List Value) (v : Value) (w : World) : Prop := ∃ a c, v = .agg #[.int .i64 lo, .int .i64 hi, .slice a n c] ∧ OwnL 68 2 B w a c n xs
theorem AslV.kept {lo hi : Int} {n B : Nat} {xs : List Value} {v : Value} {w w' : World} (h : AslV lo hi n B xs v w) (hb : Below w.heap.size w w') : AslV lo hi n B xs v w' := let ⟨a, c, h1, h2⟩ := h; ⟨a, c, h1, h2.kept hb⟩
def LegLit (lo hi : Int) (n B : Nat) (xs : List Value) (v : Value) (w : World) : Prop := ∃ g a c, v = .slice (some ⟨g, 0, none⟩) 1 1 ∧ Cells w g #[.int .i64 lo, .int .i64 hi, .slice a n c] 105 ∧ OwnL 68 2 B w a c n xs
theorem LegLit.kept {lo hi : Int} {n B : Nat} {xs : List Value} {v : Value} {w w' : World} (h : LegLit lo hi n B xs v w) (hb : Below w.heap.size w w') : LegLit lo hi n B xs v w' := let ⟨g, a, c, h1, h2, h3⟩ := h; ⟨g, a, c, h1, h2.below hb, h3.kept hb⟩
def PostV (n B : Nat) (xs : List Value) (pat : Int) (v : Value) (w : World) : Prop := ∃ a c, v = .agg #[.slice a n c, .slice none 0 0, .int .i64 pat] ∧ OwnL 3 1 B w a c n xs
theorem PostV.kept {n B : Nat} {xs : List Value} {pat : Int} {v : Value} {w w' : World} (h : PostV n B xs pat v w) (hb : Below w.heap.size w w') : PostV n B xs pat v w' := let ⟨a, c, h1, h2⟩ := h; ⟨a, c, h1, h2.kept hb⟩
theorem load_post {w : World} {b : Nat} {v0 v1 v2 : Value} (h : Cells w b #[v0, v1, v2] 34) :
    (loadVar 34 ⟨b, 0, none⟩).run Try.prog w = .ok (.agg #[v0, v1, v2]) w := by
  have hi := Try.isAgg34
  have hs := Try.sizeOf34
  have k0 := h.cell 0
  have k1 := h.cell 1
  have k2 := h.cell 2
  simp at k0 k1 k2
  unfold loadVar
  go_simp
def PostRet (p : Post) (e : Ending) (w' : World) : Prop := ∃ a c ar cr, e = .returned (.agg #[.slice a p.sends.length c, .slice ar p.routes.length cr, .int .i64 p.pat]) ∧ IntsAt w' a p.sends ∧ RoutesAt w' ar p.routes

set_option maxRecDepth 100000 in
set_option maxHeartbeats 8000000 in
theorem postConv_any (a : Option Addr) (c : Nat) (ar : Option Addr) (cr : Nat) (p : Post) (w : World) (hs : IntsAt w a p.sends) (hr : RoutesAt w ar p.routes) (sm : PostSmall p) (na : a = none → c = 0) :
    Calls Try.prog 21 #[.agg #[.slice a p.sends.length c, .slice ar p.routes.length cr, .int .i64 p.pat]] w fun e w' => PostRet p e w' ∧ Below w.heap.size w w' := by
  have l1 := sm.s
  have l2 := sm.r
  obtain ⟨W1, hW1⟩ : ∃ z : World, z = (w.alloc (.cells #[.slice a p.sends.length c, .slice ar p.routes.length cr, .int .i64 p.pat] 25)).alloc (.cells #[.slice none 0 0, .slice none 0 0, .int .i64 0] 34) := ⟨_, rfl⟩
  have C0 : Cells W1 w.heap.size #[.slice a p.sends.length c, .slice ar p.routes.length cr, .int .i64 p.pat] 25 := by rw [hW1]; exact (Cells.new _ _ _).alloc _
  have R0 : Cells W1 (w.heap.size + 1) #[.slice none 0 0, .slice none 0 0, .int .i64 0] 34 := by rw [hW1]; exact Cells.new' _ _ _ _ (by simp)
  have t0 : Below w.heap.size w W1 := by rw [hW1]; exact ((Below.refl _ _).alloc (Nat.le_refl _) _).alloc (by simp) _
  have lR := R0.lt
  have k0 := C0.cell 0
  have k2 := C0.cell 2
  have lC := C0.lt
  simp at k0 k2
  have hli := fun W (b : Below W1.heap.size W1 W) => lawlist_any a p.sends c W ((hs.below t0).below b) (by omega) na
  go_enter Try.func21, Try.ntmps21
  go_wp2
  rw [← hW1]
  clear hW1
  (refine wp_region_seq 7 [] [7] 67 [true, true, false, true, true, false, false] [OwnV 3 1 W1.heap.size p.sends.length (p.sends.map (Value.int .i64)), PostV p.sends.length W1.heap.size (p.sends.map (Value.int .i64)) p.pat, PtrV W1.heap.size #[.slice none 0 0, .slice none 0 0, .int .i64 0] 34] (by kernel_rfl) (by kernel_rfl) rfl (mono_cons (fun v w w' h hb => h.kept hb) (mono_cons (fun v w w' h hb => h.kept hb) (mono_cons (fun v w w' h hb => h.kept hb) mono_nil))) ?_; simp only [pickOps, List.filterMap_cons, List.filterMap_nil, List.getElem?_toArray, List.getElem?_cons_succ, List.getElem?_cons_zero]; (repeat (refine wpFl_step _ rfl (fun w => (by go_simp; rfl)) ?_)); refine wpFl_nil ?_; simp only [maskOps, dummy, Act.put, List.setIfInBounds_toArray, List.set_cons_zero, List.set_cons_succ, List.take_succ_cons, List.take_zero, List.drop_succ_cons, List.drop_zero]; (repeat (refine wpQB_step (fun K hK => ?_); go_simp; first | (refine hK _ ?_; clear hK K) | (apply Exists.intro; refine ⟨fun ex => ?_, hK _ ?_⟩; (fail); clear hK K))); refine wpQB_nil ?_; simp only [relObl2, under, relEnd, and_true, List.nil_append, List.cons_append])
  refine ⟨⟨?_, ?_, ?_⟩, ?_⟩
  · intro e
    go_simp
    refine (hli _ e.below).mono ?_
    rintro _ _ ⟨⟨a4, c4, rfl, ho⟩, hb⟩
    exact ⟨hb, a4, c4, rfl, ho.base_le e.size⟩
  · intro e v1 h1
    obtain ⟨a4, c4, rfl, ho⟩ := h1 (by kernel_rfl)
    go_simp
    exact ⟨Below.refl _ _, a4, c4, rfl, ho⟩
  · intro e v1 _ v2 _
    go_simp
    exact ⟨(Below.refl _ _).alloc (Nat.le_refl _) _, e.to.heap.size, rfl, by have := e.size; omega, Cells.new _ _ _⟩
  intro e
  rintro v1 - v2 ⟨a4, c4, rfl, ho⟩ v3 ⟨Bo, rfl, hBo, CO⟩
  simp only [Act.put, List.setIfInBounds_toArray, List.set_cons_zero, List.set_cons_succ]
  have he5 := e.below
  obtain ⟨w5, hw5⟩ : ∃ x : World, x = e.to := ⟨_, rfl⟩
  rw [← hw5] at he5 CO ho ⊢
  clear hw5 e
  have z0 := CO.cell 0
  have z1 := CO.cell 1
  have z2 := CO.cell 2
  have y0 := CO.frozen 0
  have y1 := CO.frozen 1
  have y2 := CO.frozen 2
  have lO := CO.lt
  simp at z0 z1 z2
  go_wp2
  obtain ⟨W9, hW9⟩ : ∃ x : World, x = ((w5.setCell ⟨Bo, 0, none⟩ (.slice a4 p.sends.length c4)).setCell ⟨Bo, 1, none⟩ (.slice none 0 0)).setCell ⟨Bo, 2, none⟩ (.int .i64 p.pat) := ⟨_, rfl⟩
  have b9 : Below W1.heap.size W1 W9 := by rw [hW9]; exact ((he5.setCell (p := ⟨Bo, 0, none⟩) hBo _).setCell (p := ⟨Bo, 1, none⟩) hBo _).setCell (p := ⟨Bo, 2, none⟩) hBo _
  have C9 : Cells W9 Bo #[.slice a4 p.sends.length c4, .slice none 0 0, .int .i64 p.pat] 34 := by rw [hW9]; exact ((CO.set 0 _).set 1 _).set 2 _
  have ho9 : OwnL 3 1 W1.heap.size W9 a4 c4 p.sends.length (p.sends.map (Value.int .i64)) := by rw [hW9]; exact ((ho.setAt CO (by decide) 0 _).setAt (CO.set 0 _) (by decide) 1 _).setAt ((CO.set 0 _).set 1 _) (by decide) 2 _
  rw [← hW9]
  clear hW9 z0 z1 z2 y0 y1 y2 lO CO he5 ho hli
  have t9 := t0.trans (b9.mono t0.size)
  have HR1 := Lib.hid (hr.below t0)
  clear k0 k2 lC hs hr t9
  go_loopw [4] (fun o wr => ∃ (k : Nat) (aq : Option Addr) (cq : Nat), k ≤ p.routes.length ∧ o = .int .i64 k ∧ RoutesOwn W1.heap.size wr (aq, cq) p.routes k ∧ Cells wr Bo #[.slice a4 p.sends.length c4, .slice aq k cq, .int .i64 p.pat] 34 ∧ OwnL 3 1 W1.heap.size wr a4 c4 p.sends.length (p.sends.map (Value.int .i64)) ∧ Below W1.heap.size W1 wr) (fun o _ => p.routes.length - (intOf o).toNat)
  case atStart => exact ⟨0, none, 0, Nat.zero_le _, rfl, NestOwn.nil _ _ _, C9, ho9, b9⟩
  case round =>
    obtain ⟨k, aq, cq, hk, rfl, hR, cO, hO, hb⟩ := hrel
    clear C9 ho9 b9
    have P := C0.below hb
    have p1 := P.cell 1
    have lP := P.lt
    simp at p1
    have lO := cO.lt
    by_cases hkl : k < p.routes.length
    · obtain ⟨b4, off4, al0, ca0, rfl, hbl4, e0, e1, eL⟩ := (HR1.out.below hb) k hkl
      have hx : Hid (p.routes[k]? = some p.routes[k]) := Lib.hid (by simp)
      have hll := sm.l _ (List.getElem_mem hkl)
      have HLA := Lib.hid (sm.a _ (List.getElem_mem hkl))
      obtain ⟨r, hre⟩ : ∃ r, p.routes[k] = r := ⟨_, rfl⟩
      rw [hre] at e0 e1 eL hx hll HLA
      clear hre
      have hkI : (k : Int) < (p.routes.length : Int) := by omega
      go_wp2
      obtain ⟨Wo, hWo⟩ : ∃ z : World, z = wr := ⟨_, rfl⟩
      subst hWo
      obtain ⟨Wx, hWx⟩ : ∃ z : World, z = Wo.alloc (.cells #[.slice none 0 0, .bool r.lossy] 108) := ⟨_, rfl⟩
      have bX : Below Wo.heap.size Wo Wx := by rw [hWx]; exact (Below.refl _ _).alloc (Nat.le_refl _) _
      have CX : Cells Wx Wo.heap.size #[.slice none 0 0, .bool r.lossy] 108 := by rw [hWx]; exact Cells.new _ _ _
      rw [← hWx]
      clear hWx
      go_loopw [6] (fun o wq => ∃ (j : Nat) (al : Option Addr) (ca : Nat), j ≤ r.legs.length ∧ o = .int .i64 j ∧ LegsOwn Wo.heap.size wq (al, ca) r.legs j ∧ Cells wq Wo.heap.size #[.slice al j ca, .bool r.lossy] 108 ∧ Below Wo.heap.size Wo wq) (fun o _ => r.legs.length - (intOf o).toNat)
      case atStart => exact ⟨0, none, 0, Nat.zero_le _, rfl, NestOwn.nil _ _ _, CX, bX⟩
      case round =>
        obtain ⟨j, al, ca, hj, rfl, hJ, cX, hb2⟩ := hrel
        clear CX bX
        have d1 := below_cell hb2 p1
        have ld1 := cell_ltK d1
        have d0 := below_cell hb2 e0
        have ld0 := cell_ltK d0
        have x0 := cX.cell 0
        have lX := cX.lt
        simp at x0
        have z2 := hb2.size
        by_cases hjl : j < r.legs.length
        · obtain ⟨b6, off6, ar6, c6, rfl, hbl6, m0, m1, m2, hR6⟩ := (eL.below hb2) j hjl
          have hy : Hid (r.legs[j]? = some r.legs[j]) := Lib.hid (by simp)
          have hla := HLA.out _ (List.getElem_mem hjl)
          obtain ⟨l, hl⟩ : ∃ l, r.legs[j] = l := ⟨_, rfl⟩
          rw [hl] at m0 m1 m2 hR6 hla hy
          clear hl
          have hjI : (j : Int) < (r.legs.length : Int) := by omega
          obtain ⟨lo, hlo⟩ : ∃ x, l.lo = x := ⟨_, rfl⟩
          obtain ⟨hi, hhi⟩ : ∃ x, l.hi = x := ⟨_, rfl⟩
          rw [hlo] at m0
          rw [hhi] at m1
          have Hlv : Hid (∀ pp : Option Addr × Nat, legV l pp = [.int .i64 lo, .int .i64 hi, .slice pp.1 l.asl.length pp.2]) := Lib.hid (fun pp => by unfold legV; rw [hlo, hhi])
          clear hlo hhi
          go_wp2
          obtain ⟨W6, hW6⟩ : ∃ z : World, z = wr.alloc (.cells #[.int .i64 lo, .int .i64 hi, .slice ar6 l.asl.length c6] 86) := ⟨_, rfl⟩
          have b6' : Below wr.heap.size wr W6 := by rw [hW6]; exact (Below.refl _ _).alloc (Nat.le_refl _) _
          have C6 : Cells W6 wr.heap.size #[.int .i64 lo, .int .i64 hi, .slice ar6 l.asl.length c6] 86 := by rw [hW6]; exact Cells.new _ _ _
          rw [← hW6]
          clear hW6
          have n0 := C6.cell 0
          have n1 := C6.cell 1
          have n2 := C6.cell 2
          have lN := C6.lt
          simp at n0 n1 n2
          have x6 := below_cell b6' x0
          have lx6 := cell_ltK x6
          have J6 := hJ.kept b6'
          have X6 := cX.below b6'
          have z6 := b6'.size
          have hto := fun W (b : Below W6.heap.size W6 W) => to_any lo hi W
          have hsp := fun W (b : Below W6.heap.size W6 W) => spansConv_any ar6 l.asl c6 W ((hR6.below b6').below b) hla
          clear x0 lX d0 d1 m0 m1 m2 hJ cX ld0 ld1
          (refine wp_region_seq 10 [] [10, 11, 12] 67 [true, true, true, true, true, true, true, false, false, false] [OwnV 68 2 W6.heap.size l.asl.length (flat2 l.asl), AslV lo hi l.asl.length W6.heap.size (flat2 l.asl), LegLit lo hi l.asl.length W6.heap.size (flat2 l.asl)] (by kernel_rfl) (by kernel_rfl) rfl (mono_cons (fun v w w' h hb => h.kept hb) (mono_cons (fun v w w' h hb => h.kept hb) (mono_cons (fun v w w' h hb => h.kept hb) mono_nil))) ?_; simp only [pickOps, List.filterMap_cons, List.filterMap_nil, List.getElem?_toArray, List.getElem?_cons_succ, List.getElem?_cons_zero]; (repeat (refine wpFl_step _ rfl (fun w => (by go_simp; rfl)) ?_)); refine wpFl_nil ?_; simp only [maskOps, dummy, Act.put, List.setIfInBounds_toArray, List.set_cons_zero, List.set_cons_succ, List.take_succ_cons, List.take_zero, List.drop_succ_cons, List.drop_zero]; (repeat (refine wpQB_step (fun K hK => ?_); go_simp; first | (refine hK _ ?_; clear hK K) | (apply Exists.intro; refine ⟨fun ex => ?_, hK _ ?_⟩; ((go_at_call 37; exact hto _ ex.below)); clear hK K))); refine wpQB_nil ?_; simp only [relObl2, under, relEnd, and_true, List.nil_append, List.cons_append])
          refine ⟨⟨?_, ?_, ?_⟩, ?_⟩
          · intro e
            go_simp
            refine (hsp _ e.below).mono ?_
            rintro _ _ ⟨⟨a7, c7, rfl, ho⟩, hb7⟩
            exact ⟨hb7, a7, c7, rfl, ho.base_le e.size⟩
          · intro e v1 h1
            obtain ⟨a7, c7, rfl, ho⟩ := h1 (by kernel_rfl)
            go_simp
            exact ⟨Below.refl _ _, a7, c7, rfl, ho⟩
          · intro e v1 _ v2 h2
            obtain ⟨a7, c7, rfl, ho⟩ := h2 (by kernel_rfl)
            go_simp
            exact ⟨(Below.refl _ _).alloc (Nat.le_refl _) _, e.to.heap.size, a7, c7, rfl, Cells.new _ _ _, ho.alloc _⟩
          intro e
          rintro v1 - v2 - v3 ⟨gg, a7, c7, rfl, CG, hA⟩
          simp only [Act.put, List.setIfInBounds_toArray, List.set_cons_zero, List.set_cons_succ]
          have he5 := e.below
          obtain ⟨w5, hw5⟩ : ∃ x : World, x = e.to := ⟨_, rfl⟩
          rw [← hw5] at he5 CG hA ⊢
          clear hw5 e hto hsp
          have J5 := J6.kept he5
          have X5 := X6.below he5
          have z5 := he5.size
          obtain ⟨ps, hps, hown, hsub⟩ := J5
          refine wpList_app_g el_clegs rfl _ _ rfl Wo.heap.size al j ca _ rfl hown (some ⟨gg, 0, none⟩) 1 1 [.int .i64 lo, .int .i64 hi, .slice a7 l.asl.length c7] rfl (fun h => by cases h) rfl CG.src (fun u hu => by simp at hu; rcases hu with rfl | rfl | rfl <;> rfl) (by unfold maxLen; omega) (by omega) (by omega) ?_
          intro a8 c8 w8 hown8 hb8 hg8
          have X8 := X5.grown hg8 (X5.not_row (by decide) hown)
          have hgA : ∀ {pp : Option Addr × Nat} {y : Leg}, AslOwn Wo.heap.size w5 pp y → AslOwn Wo.heap.size w8 pp y := fun {pp y} h => OwnL.grown h hg8 (OwnL.apart (by decide) h hown)
          have hAsl : AslOwn Wo.heap.size w5 (a7, c7) l := OwnL.base_le hA (by omega)
          have q0 := X8.cell 0
          have f0 := X8.frozen 0
          have l8 := X8.lt
          simp at q0
          have hown9 : OwnL 105 3 Wo.heap.size w8 a8 c8 (j + 1) (((r.legs.zip ps).flatMap fun x => legV x.1 x.2) ++ legV l (a7, c7)) := by rw [Hlv.out]; exact hown8
          have J8 : LegsOwn Wo.heap.size w8 (a8, c8) r.legs (j + 1) := NestOwn.snoc hps hy.out (a7, c7) hown9 (fun q y p h1 h2 => hgA (hsub q y p h1 h2)) (hgA hAsl)
          go_wp2
          go_roundw
          case rel => exact ⟨j + 1, a8, c8, by omega, by go_num, J8.setAt X8 (by decide) (by decide) 0 _, X8.set 0 _, (hb2.trans ((b6'.trans (he5.mono z6)).mono z2)).trans (hb8.setCell (p := ⟨Wo.heap.size, 0, none⟩) (Nat.le_refl _) _)⟩
          case measure => simp [intOf]; omega
        · obtain rfl : j = r.legs.length := by omega
          have hR2 := hR.kept hb2
          obtain ⟨ps, hps, hown, hsub⟩ := hR2
          have hO2 := hO.kept hb2
          have cO2 := cO.below hb2
          have zo := hb.size
          have hJ' : LegsOwn W1.heap.size wr (al, ca) r.legs r.legs.length := hJ.base_le zo
          have o1 := cO2.cell 1
          have lo1 := cO2.lt
          have xx1 := cX.cell 1
          simp at o1 xx1
          have Hrv : Hid (∀ pp : Option Addr × Nat, routeV r pp = [.slice pp.1 r.legs.length pp.2, .bool r.lossy]) := Lib.hid (fun pp => rfl)
          obtain ⟨ly, hly⟩ : ∃ x, r.lossy = x := ⟨_, rfl⟩
          rw [hly] at xx1 Hrv
          clear hly
          go_wp2_with (at_builtin; refine wpList_app_g el_croutes rfl _ _ rfl W1.heap.size aq k cq _ rfl (hown.alloc _) (some ⟨wr.heap.size, 0, none⟩) 1 1 [.slice al r.legs.length ca, .bool ly] rfl (fun h => by cases h) rfl (Cells.src (Cells.new _ _ _)) (fun u hu => by simp at hu; rcases hu with rfl | rfl <;> rfl) (by unfold maxLen; omega) (by omega) (by simp; omega) ?_; intro a8 c8 w8 hown8 hb8 hg8; have O8 := (cO2.alloc (.cells #[.slice al r.legs.length ca, .bool ly] 108)).grown hg8 (Cells.not_row (cO2.alloc (.cells #[.slice al r.legs.length ca, .bool ly] 108)) (by decide) (hown.alloc _)); have q1 := O8.cell 1; have f1 := O8.frozen 1; have l8 := O8.lt; simp at q1)
          have hgA : ∀ {pp : Option Addr × Nat} {y : Leg}, AslOwn W1.heap.size wr pp y → AslOwn W1.heap.size w8 pp y := fun {pp y} h => OwnL.grown (OwnL.alloc (show OwnL 68 2 W1.heap.size wr pp.1 pp.2 y.asl.length (flat2 y.asl) from h) _) hg8 (OwnL.apart (by decide) h hown)
          have hgL : ∀ {pp : Option Addr × Nat} {y : List Leg}, LegsOwn W1.heap.size wr pp y y.length → LegsOwn W1.heap.size w8 pp y y.length := fun {pp y} h => by
            obtain ⟨qs, q1, q2, q3⟩ := h
            exact ⟨qs, q1, OwnL.grown (OwnL.alloc q2 _) hg8 (OwnL.apart (by decide) q2 hown), fun q x p hx hp => hgA (q3 q x p hx hp)⟩
          have hO8 : OwnL 3 1 W1.heap.size w8 a4 c4 p.sends.length (p.sends.map (Value.int .i64)) := OwnL.grown (OwnL.alloc hO2 _) hg8 (OwnL.apart (by decide) hO2 hown)
          have hown9 : OwnL 108 2 W1.heap.size w8 a8 c8 (k + 1) (((p.routes.zip ps).flatMap fun x => routeV x.1 x.2) ++ routeV r (al, ca)) := by rw [Hrv.out]; exact hown8
          have R8 : RoutesOwn W1.heap.size w8 (a8, c8) p.routes (k + 1) := NestOwn.snoc hps hx.out (al, ca) hown9 (fun q y p h1 h2 => hgL (hsub q y p h1 h2)) (hgL hJ')
          go_roundw
          case rel => exact ⟨k + 1, a8, c8, by omega, by go_num, R8.setAt O8 (by decide) (by decide) (by decide) 1 _, O8.set 1 _, hO8.setAt O8 (by decide) 1 _, (hb.trans ((hb2.trans (((Below.refl _ _).alloc (Nat.le_refl _) _).mono z2)).mono zo)).trans (hb8.setCell (p := ⟨Bo, 1, none⟩) hBo _)⟩
          case measure => simp [intOf]; omega
    · obtain rfl : k = p.routes.length := by omega
      have o0 := cO.cell 0
      have o1 := cO.cell 1
      have o2 := cO.cell 2
      simp at o0 o1 o2
      have Rr := R0.below hb
      have r0 := Rr.cell 0
      have r1 := Rr.cell 1
      have r2 := Rr.cell 2
      have s0 := Rr.frozen 0
      have s1 := Rr.frozen 1
      have s2 := Rr.frozen 2
      have lRr := Rr.lt
      simp at r0 r1 r2
      have hne : Bo ≠ w.heap.size + 1 := by omega
      have zo := hb.size
      have CF := ((Rr.set 0 (.slice a4 p.sends.length c4)).set 1 (.slice aq p.routes.length cq)).set 2 (.int .i64 p.pat)
      have hO' := ((hO.setAt Rr (by decide) 0 (.slice a4 p.sends.length c4)).setAt (Rr.set 0 _) (by decide) 1 (.slice aq p.routes.length cq)).setAt ((Rr.set 0 _).set 1 _) (by decide) 2 (.int .i64 p.pat)
      have hR' := ((hR.setAt Rr (by decide) (by decide) (by decide) 0 (.slice a4 p.sends.length c4)).setAt (Rr.set 0 _) (by decide) (by decide) (by decide) 1 (.slice aq p.routes.length cq)).setAt ((Rr.set 0 _).set 1 _) (by decide) (by decide) (by decide) 2 (.int .i64 p.pat)
      have bF : Below w.heap.size w (((wr.setCell ⟨w.heap.size + 1, 0, none⟩ (.slice a4 p.sends.length c4)).setCell ⟨w.heap.size + 1, 1, none⟩ (.slice aq p.routes.length cq)).setCell ⟨w.heap.size + 1, 2, none⟩ (.int .i64 p.pat)) :=
        (((t0.trans (hb.mono (by omega))).setCell (p := ⟨w.heap.size + 1, 0, none⟩) (by simp) _).setCell (p := ⟨w.heap.size + 1, 1, none⟩) (by simp) _).setCell (p := ⟨w.heap.size + 1, 2, none⟩) (by simp) _
      go_wp2
      refine bodyPost_ret (results_cell1 rfl rfl (load_post CF)) rfl ?_
      exact ⟨⟨a4, c4, aq, cq, rfl, (OwnL.ints hO').1, hR'.at⟩, bF⟩
end Go.Proofs.Ytfclemnkcpadpaa
