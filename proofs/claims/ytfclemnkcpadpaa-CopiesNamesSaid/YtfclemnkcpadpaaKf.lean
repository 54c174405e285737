/- copies: play -/
import Derived.Test.YtfclemnkcpadpaaKe
import Derived.Deep.RegionHeld3
import Derived.Deep.AppendLies
namespace Go.Proofs.Ytfclemnkcpadpaa
set_option linter.unusedVariables false
set_option linter.unusedSimpArgs false
set_option linter.unnecessarySimpa false
open Go.RowKit Go.Flow

def flatE (xs : List Ent) : List Value := xs.flatMap fun x => [.int .i64 x.num, .int .i64 x.at_, .bool x.skip]
theorem flatE_get : ∀ (xs : List Ent) (k : Nat) (h : k < xs.length), (flatE xs)[k * 3]? = some (.int .i64 xs[k].num) ∧ (flatE xs)[k * 3 + 1]? = some (.int .i64 xs[k].at_) ∧ (flatE xs)[k * 3 + 2]? = some (.bool xs[k].skip)
  | x :: xs, 0, _ => by simp [flatE]
  | x :: xs, k + 1, h => by
    obtain ⟨a, b, c⟩ := flatE_get xs k (by simpa using h)
    have e : flatE (x :: xs) = .int .i64 x.num :: .int .i64 x.at_ :: .bool x.skip :: flatE xs := by simp [flatE]
    rw [e, show (k + 1) * 3 = k * 3 + 3 by omega]
    exact ⟨a, b, c⟩
theorem flatE_snoc (xs : List Ent) (x : Ent) : flatE (xs ++ [x]) = flatE xs ++ [.int .i64 x.num, .int .i64 x.at_, .bool x.skip] := by simp [flatE]
theorem flatE_len (xs : List Ent) : (flatE xs).length = xs.length * 3 := by
  induction xs with
  | nil => rfl
  | cons x l ih =>
    have e : flatE (x :: l) = .int .i64 x.num :: .int .i64 x.at_ :: .bool x.skip :: flatE l := by simp [flatE]
    rw [e]; simp only [List.length_cons, ih]; omega
theorem OwnL.ents {T : TypeId} {base : Nat} {w : World} {a : Option Addr} {c n : Nat} {xs : List Ent} (h : OwnL T 3 base w a c n (flatE xs)) : EntsAt w a xs := fun k hk => by
  rcases h.form with ⟨_, _, _, h4⟩ | ⟨g, rfl, _, hlt, _, _, _, hc⟩
  · have := (flatE_get xs k hk).1; rw [h4] at this; simp at this
  · obtain ⟨e0, e1, e2⟩ := flatE_get xs k hk
    exact ⟨g, 0, rfl, hlt, by rw [Nat.zero_add]; exact hc _ _ e0, by rw [Nat.zero_add]; exact hc _ _ e1, by rw [Nat.zero_add]; exact hc _ _ e2⟩
theorem info_centry : (Try.prog.info? 82).map (fun i => (i.zero, i.size, i.bytes)) = some (some (.agg #[.int .i64 0, .int .i64 0, .bool false]), 3, 24) := by kernel_rfl
theorem el_centries : Elem Try.prog 36 82 (.agg #[.int .i64 0, .int .i64 0, .bool false]) 3 24 := ⟨Try.underlying36, info_parts info_centry, rfl, by decide⟩

/-- The hour of a dispatch: of all copies the smallest one. -/
def hourGo (s : Int) : Int → List (List Int) → List Route → Int
  | h, ts :: l, r :: rs => hourGo s (min h (comeR r s ts)) l rs
  | h, _, _ => h
theorem hourGo_step {s h : Int} {l : List (List Int)} {rs : List Route} {k : Nat} (h1 : k < l.length) (h2 : k < rs.length) : hourGo s h (l.drop k) (rs.drop k) = hourGo s (min h (comeR rs[k] s l[k])) (l.drop (k + 1)) (rs.drop (k + 1)) := by
  rw [List.drop_eq_getElem_cons h1, List.drop_eq_getElem_cons h2]; rfl
def playGo (p : Post) : Nat → Int → List (List (List Int)) → List Ent
  | i, before, l :: t => recvF p i before (hourGo (p.sends.getD i 0) 101 l p.routes) :: playGo p (i + 1) (recvF p i before (hourGo (p.sends.getD i 0) 101 l p.routes)).at_ t
  | _, _, [] => []
def playF (p : Post) (t : List (List (List Int))) : List Ent := playGo p 0 0 t
theorem playGo_len (p : Post) : ∀ (t : List (List (List Int))) (i : Nat) (b : Int), (playGo p i b t).length = t.length
  | [], _, _ => rfl
  | l :: t, i, b => by simp [playGo, playGo_len p t]

/-- A row fits its route. -/
structure RowOk (r : Route) (ts : List Int) : Prop where
  len : ts ≠ [] → ts.length = r.legs.length
  bd : ∀ t ∈ ts, 0 ≤ t ∧ t ≤ 100
/-- What the walk of play asks of a post and a truth. -/
structure PlayOk (p : Post) (t : List (List (List Int))) : Prop where
  n : t.length = p.sends.length
  n4 : p.sends.length ≤ 4
  r3 : p.routes.length ≤ 3
  hours : PostHours p
  legs : ∀ r ∈ p.routes, r.legs.length ≤ 3 ∧ r.legs.all legOk = true ∧ ∀ l ∈ r.legs, l.asl.length ≤ 1000
  len : ∀ l ∈ t, l.length = p.routes.length
  rows : ∀ l ∈ t, ∀ (j : Nat) (h1 : j < l.length) (h2 : j < p.routes.length), RowOk p.routes[j] l[j]

theorem drop_cons {α : Type} {l r : List α} {e : α} {k : Nat} (h : l.drop k = e :: r) : l.drop (k + 1) = r ∧ l.take (k + 1) = l.take k ++ [e] := by
  have hk : k < l.length := by
    rcases Nat.lt_or_ge k l.length with h1 | h1
    · exact h1
    · rw [List.drop_eq_nil_of_le h1] at h; cases h
  rw [List.drop_eq_getElem_cons hk] at h
  obtain ⟨h1, h2⟩ := List.cons.inj h
  exact ⟨h2, by rw [List.take_succ_eq_append_getElem hk, h1]⟩
theorem own_lt {E : TypeId} {size base : Nat} {w : World} {a : Option Addr} {c n : Nat} {xs : List Value} (h : OwnL E size base w a c n xs) {g : Nat} (e : (Value.slice a n c).ownBlock = some g) : g < w.heap.size := by
  rcases h.2 with ⟨h1, _⟩ | ⟨g', cap, cur, h1, _, hgb, _⟩
  · rw [h1] at e; simp [Value.ownBlock] at e
  · rw [h1] at e
    obtain rfl : g' = g := by simpa [Value.ownBlock] using e
    exact (Array.getElem?_eq_some_iff.1 hgb).1
set_option maxRecDepth 100000 in
set_option maxHeartbeats 4000000 in
theorem play_any (a : Option Addr) (c : Nat) (ar : Option Addr) (cr : Nat) (p : Post) (at_ : Option Addr) (ct : Nat) (t : List (List (List Int))) (w : World) (hs : IntsAt w a p.sends) (hr : RoutesAt w ar p.routes) (ht : TruthAt w at_ t) (ok : PlayOk p t) :
    Calls Try.prog 65 #[.agg #[.slice a p.sends.length c, .slice ar p.routes.length cr, .int .i64 p.pat], .slice at_ t.length ct] w fun e w' => (∃ ao co, e = .returned (.slice ao t.length co) ∧ OwnL 82 3 w.heap.size w' ao co t.length (flatE (playF p t))) ∧ Below w.heap.size w w' := by
  have n1 := ok.n
  have n4 := ok.n4
  have r3 := ok.r3
  have Hn := Lib.hid n1
  have n5 : t.length ≤ 4 ∧ t.length ≤ p.sends.length := by omega
  clear n1
  have wb : ∀ o, Below w.heap.size w (w.alloc o) := fun o => (Below.refl _ _).alloc (Nat.le_refl _) _
  have P0 : Cells (w.alloc (.cells #[.slice a p.sends.length c, .slice ar p.routes.length cr, .int .i64 p.pat] 34)) w.heap.size #[.slice a p.sends.length c, .slice ar p.routes.length cr, .int .i64 p.pat] 34 := Cells.new _ _ _
  go_enter Try.func65, Try.ntmps65
  go_wp2
  go_loopw [4, 5, 14] (fun o b i wr => ∃ (k : Nat) (bf : Int) (ao : Option Addr) (co : Nat), k ≤ t.length ∧ i = .int .i64 k ∧ b = .int .i64 bf ∧ o = .slice ao k co ∧ OwnL 82 3 (w.heap.size + 1) wr ao co k (flatE ((playF p t).take k)) ∧ (playF p t).drop k = playGo p k bf (t.drop k) ∧ Below w.heap.size w wr ∧ Cells wr w.heap.size #[.slice a p.sends.length c, .slice ar p.routes.length cr, .int .i64 p.pat] 34) (fun _ _ i _ => t.length - (intOf i).toNat)
  case atStart => exact ⟨0, 0, none, 0, Nat.zero_le _, rfl, rfl, rfl, OwnL.nil _ _ _ _, rfl, wb _, P0⟩
  case round =>
    obtain ⟨k, bf, ao, co, hk, rfl, rfl, rfl, hown, hpl, hb, cP⟩ := hrel
    have Hpl := Lib.hid hpl
    clear hpl P0 wb
    by_cases hkl : k < t.length
    · obtain ⟨b, off, a2, c2, rfl, hbl, c0, hL, _⟩ := ht k hkl
      have c0' := below_c hb hbl c0
      have hLr := hL.below hb
      have lk := ok.len t[k] (List.getElem_mem hkl)
      have rows := ok.rows t[k] (List.getElem_mem hkl)
      clear c0 hL
      have Hdrop : Hid (t.drop k = t[k] :: t.drop (k + 1)) := Lib.hid (List.drop_eq_getElem_cons hkl)
      obtain ⟨l, hle⟩ : ∃ l, t[k] = l := ⟨_, rfl⟩
      rw [hle] at c0' hLr lk Hdrop
      have rows' : ∀ (j : Nat) (h1 : j < l.length) (h2 : j < p.routes.length), RowOk p.routes[j] l[j] := by rw [← hle]; exact rows
      clear hle rows
      have ll : l.length ≤ p.routes.length ∧ p.routes.length ≤ l.length := by omega
      have Hlk := Lib.hid lk
      clear lk
      have hks : k < p.sends.length := by omega
      obtain ⟨bs, offs, rfl, hbs, s0⟩ := hs k hks
      have s0' : wr.cell? ⟨bs, offs + k, none⟩ = some (.int .i64 p.sends[k]) := (below_c hb hbs s0).trans (by simp [hks])
      have sb := ok.hours.s _ (List.getElem_mem hks)
      have Hsg : Hid (p.sends.getD k 0 = p.sends[k]) := Lib.hid (by simp [hks])
      clear s0
      obtain ⟨s, hse⟩ : ∃ s, p.sends[k] = s := ⟨_, rfl⟩
      rw [hse] at s0' sb Hsg
      clear hse
      have p0 := cP.cell 0
      have p1 := cP.cell 1
      have lP := cP.lt
      simp at p0 p1
      go_wp2
      obtain ⟨wo, hwo⟩ : ∃ z : World, z = wr := ⟨_, rfl⟩
      subst hwo
      go_loopw [8, 21] (fun h i wr => ∃ (j : Nat) (g : Int), j ≤ l.length ∧ i = .int .i64 j ∧ h = .int .i64 g ∧ hourGo s 101 (l.drop 0) (p.routes.drop 0) = hourGo s g (l.drop j) (p.routes.drop j) ∧ Below wo.heap.size wo wr) (fun _ i _ => l.length - (intOf i).toNat)
      case atStart => exact ⟨0, 101, Nat.zero_le _, rfl, rfl, rfl, Below.refl _ _⟩
      case round =>
        obtain ⟨j, g, hj, rfl, rfl, hm, hb2⟩ := hrel
        have Hm := Lib.hid hm
        clear hm
        have q1 := below_c hb2 lP p1
        have q0 := below_c hb2 lP p0
        have lP2 := cell_ltK q1
        by_cases hjl : j < l.length
        · obtain ⟨b3, off3, a3, c3, rfl, hbl3, d0, dI, dn⟩ := (hLr.below hb2) j hjl
          obtain ⟨b4, off4, al, ca, rfl, hbl4, e0, e1, eL⟩ := ((hr.below hb).below hb2) j (by omega)
          have hjr : j < p.routes.length := by omega
          have ro := rows' j hjl hjr
          have lo := ok.legs p.routes[j] (List.getElem_mem hjr)
          have Hst := Lib.hid (hourGo_step (s := s) (h := g) hjl hjr)
          obtain ⟨ts, hts⟩ : ∃ x, l[j] = x := ⟨_, rfl⟩
          obtain ⟨r, hrr⟩ : ∃ x, p.routes[j] = x := ⟨_, rfl⟩
          rw [hts] at d0 dI Hst ro
          rw [hrr] at e0 e1 eL Hst ro lo
          clear hts hrr
          have hbs2 := Nat.lt_of_lt_of_le (Nat.lt_of_lt_of_le hbs hb.size) hb2.size
          have s1' := below_c hb2 (Nat.lt_of_lt_of_le hbs hb.size) s0'
          have hcm : ∀ W, Below wr.heap.size wr W → Calls Try.prog 97 #[.agg #[.slice al r.legs.length ca, .bool r.lossy], .int .i64 s, .slice a3 ts.length c3] W fun e w' => e = .returned (.int .i64 (comeR r s ts)) ∧ Below W.heap.size W w' :=
            fun W b => comes_any al ca r s a3 ts c3 W (eL.below b) (dI.below b) ro.len lo.1 lo.2.1 lo.2.2 (by omega) (by omega) ro.bd
          obtain ⟨x, hx⟩ : ∃ x, comeR r s ts = x := ⟨_, rfl⟩
          rw [hx] at hcm Hst
          clear hx ro lo dI eL
          have hltI : (j : Int) < (l.length : Int) := by omega
          have hltR : (j : Int) < (p.routes.length : Int) := by omega
          have hkS : (k : Int) < (p.sends.length : Int) := by omega
          go_wp2
          (refine wp_region_seq 14 [] [14, 15] 55 [true, true, true, true, true, true, true, true, true, true, true, true, true, false] [LitV wr.heap.size 2 #[.int .i64 g, .int .i64 x] 3] (by kernel_rfl) (by kernel_rfl) rfl (mono_cons (fun v w w' h hb => h.kept hb) mono_nil) ?_; simp only [pickOps, List.filterMap_cons, List.filterMap_nil, List.getElem?_toArray, List.getElem?_cons_succ, List.getElem?_cons_zero]; (repeat (refine wpFl_step _ rfl (fun w => (by go_simp; rfl)) ?_)); refine wpFl_nil ?_; simp only [maskOps, dummy, Act.put, List.setIfInBounds_toArray, List.set_cons_zero, List.set_cons_succ, List.take_succ_cons, List.take_zero, List.drop_succ_cons, List.drop_zero]; (repeat (refine wpQB_step (fun K hK => ?_); go_simp; first | (refine hK _ ?_; clear hK K) | (apply Exists.intro; refine ⟨fun ex => ?_, hK _ ?_⟩; ((go_at_call 97; exact hcm _ ex.below)); clear hK K))); refine wpQB_nil ?_; simp only [relObl2, under, relEnd, and_true, List.nil_append, List.cons_append])
          refine ⟨?_, ?_⟩
          · intro e
            go_simp
            exact ⟨(Below.refl _ _).alloc (Nat.le_refl _) _, e.to.heap.size, rfl, by have := e.size; omega, Cells.new _ _ _⟩
          · intro e
            rintro v1 ⟨gg, rfl, hg1, hgg⟩
            simp only [Act.put, List.setIfInBounds_toArray, List.set_cons_zero, List.set_cons_succ]
            have heb := e.below
            obtain ⟨w5, hw5⟩ : ∃ x : World, x = e.to := ⟨_, rfl⟩
            rw [← hw5] at heb hgg ⊢
            clear hw5 e
            go_wp2_with (go_at_call 96; (with_reducible refine (smallest_any _ g x 2 _ (hgg.ints [g, x] rfl)).mono ?_); rintro e w2 ⟨rfl, rfl⟩)
            go_roundw
            case rel => exact ⟨j + 1, min g x, by omega, by go_num, rfl, by rw [Hm.out, Hst.out], hb2.trans (heb.mono hb2.size)⟩
            case measure => simp [intOf]; omega
        · obtain rfl : j = l.length := by omega
          have hm2 := Hm.out
          rw [List.drop_eq_nil_of_le (Nat.le_refl _)] at hm2
          have Hm2 := Lib.hid (show hourGo s 101 l p.routes = g from hm2)
          clear hm2
          have hbb := hb.trans (hb2.mono hb.size)
          have own2 := hown.kept hb2
          have cP2 := cP.below hb2
          have hrv := fun W (b : Below wr.heap.size wr W) => receive_any (some ⟨bs, offs, none⟩) c ar cr p k bf g W (((hs.below hb).below hb2).below b) hks (by omega) (by have := ok.hours.s _ (List.getElem_mem hks); omega) (by have := ok.hours.p; omega)
          have q2 : wr.cell? ⟨w.heap.size, 2, none⟩ = some (.int .i64 p.pat) := by have := cP2.cell 2; simpa using this
          have He : Hid (recvF p k bf (hourGo (p.sends.getD k 0) 101 l p.routes) = recvF p k bf g) := Lib.hid (by rw [Hsg.out, Hm2.out])
          obtain ⟨en, hen⟩ : ∃ e, recvF p k bf g = e := ⟨_, rfl⟩
          have Hen : Hid (recvF p k bf g = en) := Lib.hid hen
          have hnum : en.num = k := by rw [← hen]; rfl
          rw [hen] at hrv
          clear hen
          obtain ⟨x, hx⟩ : ∃ x, en.at_ = x := ⟨_, rfl⟩
          obtain ⟨y, hy⟩ : ∃ y, en.skip = y := ⟨_, rfl⟩
          rw [hx, hy] at hrv
          have Hxy : Hid (en = ⟨k, x, y⟩) := Lib.hid (by rw [← hnum, ← hx, ← hy])
          clear hx hy hnum
          go_wp2_with (go_at_call 98; (with_reducible refine (hrv _ (by (repeat (first | exact Below.refl _ _ | refine Below.alloc ?_ (by first | omega | (simp; done) | (simp; omega)) _ | refine Below.drew ?_ | refine Below.setCell ?_ (by first | omega | (simp; done) | (simp; omega)) _ | refine Below.trans ?_ (Below.mono (by assumption) (by first | omega | (simp; done) | (simp; omega))))))).mono ?_); rintro e w6 ⟨rfl, hb6⟩)
          obtain ⟨w7, hw7⟩ : ∃ z : World, z = w6.alloc (.cells #[.int .i64 k, .int .i64 x, .bool y] 82) := ⟨_, rfl⟩
          have b7 : Below wr.heap.size wr w7 := by rw [hw7]; exact (hb6.alloc hb6.size _)
          obtain ⟨B, hB⟩ : ∃ B, w6.heap.size = B := ⟨_, rfl⟩
          have c7 : Cells w7 B #[.int .i64 k, .int .i64 x, .bool y] 82 := by rw [hw7]; exact Cells.new' _ _ _ _ hB.symm
          have own7 : OwnL 82 3 (w.heap.size + 1) w7 ao co k (flatE ((playF p t).take k)) := own2.kept b7
          have hne : (Value.slice ao k co).ownBlock ≠ some B := fun e => by
            have := own_lt (own2.kept hb6) e
            omega
          have cP7 := cP2.below b7
          have lw7 : w.heap.size + 1 ≤ w7.heap.size := by have := cP7.lt; omega
          rw [← hw7, hB]
          clear hw7 hB hb6 own2 cP2 cP p0 p1 q0 q1 q2 hown
          have z0 := c7.cell 0
          have z1 := c7.cell 1
          have z2 := c7.cell 2
          simp at z0 z1 z2
          have lB := c7.lt
          obtain ⟨i0, hi0, hz0, hz1, hz2⟩ := el_centries.info
          go_region_held3 (fun w' => w'.cell? ⟨B, 0, none⟩ = some (.int .i64 k) ∧ w'.cell? ⟨B, 1, none⟩ = some (.int .i64 x) ∧ w'.cell? ⟨B, 2, none⟩ = some (.bool y))
            (first
              | go_keep
              | (go_split_ands
                 refine ⟨?_, ?_, ?_⟩
                 · (rw [hgrow.cell_far _ (by simp; omega) (Ne.symm hne)]; assumption)
                 · (rw [hgrow.cell_far _ (by simp; omega) (Ne.symm hne)]; assumption)
                 · (rw [hgrow.cell_far _ (by simp; omega) (Ne.symm hne)]; assumption)))
            ((refine step_append_lies _ (by rfl) _ _ _ (by rfl) (w.heap.size + 1) 82 i0 _ 3 24 Try.underlying36 hi0 hz0 hz1 hz2 rfl (by omega) (.slice ao k co) k _ (by rfl) ((own7.alloc _).drew) ⟨w7.heap.size, 0, none⟩ 1 1 [.int .i64 k, .int .i64 x, .bool y] (by rfl) (by rfl) (World.news_of_block (cs := #[.int .i64 k, .int .i64 x, .bool y]) (t := 82) (fr := (0, 0)) (heap_alloc_new w7 _)) (by simp [Value.oneCell']) (by omega) (by unfold maxLen; omega) (by omega) (by simp; omega) (w7.heap.size + 1) (by simp) ?_; intro gg cap w1 hown1 hgrow hat hlt))
          have hbg := below_of_grown ((own7.alloc _).drew) (by simp; omega) hgrow
          have hw1 : Below (w.heap.size + 1) w7 w1 := (((Below.refl _ w7).alloc lw7 _).drew).trans hbg
          have cP1 : Cells w1 w.heap.size #[.slice (some ⟨bs, offs, none⟩) p.sends.length c, .slice ar p.routes.length cr, .int .i64 p.pat] 34 := (hw1.block w.heap.size (by omega)).trans cP7
          have hcons : (playF p t).drop k = ⟨k, x, y⟩ :: playGo p (k + 1) x (t.drop (k + 1)) := by
            rw [Hpl.out, Hdrop.out]
            simp only [playGo]
            rw [He.out, Hen.out, Hxy.out]
          have Hdc := Lib.hid (drop_cons hcons)
          clear hcons hgrow hat hbg
          go_wp2
          go_roundw
          case rel => exact ⟨k + 1, x, _, _, by omega, by go_num, rfl, rfl, by rw [Hdc.out.2, flatE_snoc]; exact hown1, Hdc.out.1, (hbb.trans (b7.mono hbb.size)).trans (hw1.mono (by omega)), cP1⟩
          case measure => simp [intOf]; omega
    · obtain rfl : k = t.length := by omega
      go_wp2
      go_ret
      refine ⟨⟨_, _, rfl, ?_⟩, hb⟩
      rw [List.take_of_length_le (by unfold playF; rw [playGo_len]; exact Nat.le_refl _)] at hown
      exact hown.base_le (by omega)
end Go.Proofs.Ytfclemnkcpadpaa
