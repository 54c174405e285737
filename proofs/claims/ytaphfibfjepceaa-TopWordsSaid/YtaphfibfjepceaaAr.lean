/- pay: Bounds · pay: Reach · pay: Words -/
import Derived.Test.YtaphfibfjepceaaAq
import Derived.Test.YtaphfibfjepceaaAk
import Derived.Deep.RegionHeld3
import Derived.Deep.AppendLies
namespace Go.Proofs.Ytaphfibfjepceaa
set_option linter.unusedVariables false
set_option linter.unusedSimpArgs false
set_option linter.unnecessarySimpa false
open Go.RowKit Go.Flow Go.Shelf

theorem firstN_bd (f : Int → Int) (b : Int) : ∀ (k : Nat) (n : Int), n ≤ firstN f b k n ∧ firstN f b k n ≤ n + (k : Int)
  | 0, n => by simp [firstN]
  | k + 1, n => by
    have := firstN_bd f b k (n + 1)
    rw [firstN]
    split <;> push_cast <;> omega
theorem reachL_bd {rate keeps : Int} {ds : List Dis} (G : Good rate keeps ds) (X : Int → Int → Bool → Int) (s : Int) (k : Nat) : ∀ x ∈ reachL rate keeps X s ds k, 1 ≤ x ∧ x ≤ 200 := by
  intro x hx
  simp only [reachL, List.mem_map] at hx
  obtain ⟨d, hd, rfl⟩ := hx
  have := G.w d (List.mem_of_mem_take hd)
  have := firstN_bd (fun n => chF rate keeps d n s) (chF rate keeps d (X d.lo d.hi (d.payer == s)) s) (d.hi - d.lo).toNat d.lo
  unfold reachD
  omega
theorem reachL_len (rate keeps : Int) (X : Int → Int → Bool → Int) (s : Int) (ds : List Dis) : (reachL rate keeps X s ds ds.length).length = ds.length := by simp [reachL]
def lowX (lo hi : Int) (b : Bool) : Int := lowF lo hi b
def highX (lo hi : Int) (b : Bool) : Int := lowF lo hi (!b)
theorem lowX_in (lo hi : Int) (b : Bool) (h : lo ≤ hi) : lo ≤ lowX lo hi b ∧ lowX lo hi b ≤ hi := by unfold lowX lowF; split <;> omega
theorem highX_in (lo hi : Int) (b : Bool) (h : lo ≤ hi) : lo ≤ highX lo hi b ∧ highX lo hi b ≤ hi := by unfold highX lowF; split <;> omega
/-- The end of a balance. -/
def endB (rate keeps : Int) (ds : List Dis) (X : Int → Int → Bool → Int) (s : Int) : Int := balN rate keeps ds (reachL rate keeps X s ds ds.length) s ds.length
def bdL (rate keeps : Int) (ds : List Dis) (m : Nat) : List (Int × Int) := (List.range m).map fun (s : Nat) => (endB rate keeps ds lowX (s : Int), endB rate keeps ds highX (s : Int))
def flat2 (l : List (Int × Int)) : List Value := l.flatMap fun p => [.int .i64 p.1, .int .i64 p.2]
theorem flat2_get : ∀ (xs : List (Int × Int)) (k : Nat) (h : k < xs.length), (flat2 xs)[k * 2]? = some (.int .i64 xs[k].1) ∧ (flat2 xs)[k * 2 + 1]? = some (.int .i64 xs[k].2)
  | x :: xs, 0, _ => by simp [flat2]
  | x :: xs, k + 1, h => by
    obtain ⟨a, b⟩ := flat2_get xs k (by simpa using h)
    have e : flat2 (x :: xs) = .int .i64 x.1 :: .int .i64 x.2 :: flat2 xs := by simp [flat2]
    rw [e, show (k + 1) * 2 = k * 2 + 2 by omega]
    exact ⟨a, b⟩
theorem flat2_snoc (xs : List (Int × Int)) (x : Int × Int) : flat2 (xs ++ [x]) = flat2 xs ++ [.int .i64 x.1, .int .i64 x.2] := by simp [flat2]
theorem flat2_take (xs : List (Int × Int)) (k : Nat) (h : k < xs.length) : flat2 (xs.take (k + 1)) = flat2 (xs.take k) ++ [.int .i64 xs[k].1, .int .i64 xs[k].2] := by
  rw [List.take_succ_eq_append_getElem h, flat2_snoc]
theorem OwnL.recs2 {T : TypeId} {base : Nat} {w : World} {a : Option Addr} {c n : Nat} {xs : List (Int × Int)} (h : OwnL T 2 base w a c n (flat2 xs)) : Recs2At w a xs := fun k hk => by
  rcases h.form with ⟨_, _, _, h4⟩ | ⟨g, rfl, _, hlt, _, _, _, hc⟩
  · have := (flat2_get xs k hk).1; rw [h4] at this; simp at this
  · obtain ⟨e0, e1⟩ := flat2_get xs k hk
    exact ⟨g, 0, rfl, hlt, by rw [Nat.zero_add]; exact hc _ _ e0, by rw [Nat.zero_add]; exact hc _ _ e1⟩
theorem info_ranges : (Try.prog.info? 60).map (fun i => (i.zero, i.size, i.bytes)) = some (some (.agg #[.int .i64 0, .int .i64 0]), 2, 16) := by kernel_rfl
theorem elRange : Elem Try.prog 50 60 (.agg #[.int .i64 0, .int .i64 0]) 2 16 := ⟨Try.underlying50, info_parts info_ranges, rfl, by decide⟩
theorem bdL_succ (rate keeps : Int) (ds : List Dis) (m : Nat) : bdL rate keeps ds (m + 1) = bdL rate keeps ds m ++ [(endB rate keeps ds lowX (m : Int), endB rate keeps ds highX (m : Int))] := by simp [bdL, List.range_succ]
def bdOut (a : Acc) : List (Int × Int) := if accErr a = 0 then bdL a.rate a.keeps a.ds a.st.toNat else []

section
variable (st rate keeps : Int) (ds : List Dis) (ad : Option Addr) (cd : Nat) (w : World) (hd : DisAt w ad ds) (sm : AccSmall ⟨st, rate, keeps, ds⟩)
include hd sm
set_option maxRecDepth 100000 in
set_option maxHeartbeats 4000000 in
theorem Bounds_bad (E : Int) (hE : accErr ⟨st, rate, keeps, ds⟩ = E) (hne : E ≠ 0) : Calls Try.prog 15 #[.agg #[.int .i64 st, .int .i64 rate, .int .i64 keeps, .slice ad ds.length cd]] w fun e w' => e = .returned (.tuple #[.slice none 0 0, .int .i64 E]) ∧ Below w.heap.size w w' := by
  have wk := fun W (b : Below w.heap.size w W) => work_bad st rate keeps ds ad cd W E (hd.below b) sm hE hne
  have h1 : (E != 0) = true := by simpa using hne
  have h2 : (E == 0) = false := by simpa using hne
  clear hE
  go_enter Try.func15, Try.ntmps15
  go_wp2_with fail
  go_at_call 30
  refine (wk _ (by (repeat (first | exact Below.refl _ _ | refine Below.alloc ?_ (by first | omega | (simp; done) | (simp; omega)) _ | refine Below.drew ?_ | refine Below.setCell ?_ (by first | omega | (simp; done) | (simp; omega)) _ | refine Below.trans ?_ (Below.mono (by assumption) (by first | omega | (simp; done) | (simp; omega))))))).mono ?_
  rintro e w1 ⟨rfl, b1⟩
  have t1 : Below w.heap.size w w1 := by (repeat (first | exact Below.refl _ _ | refine Below.alloc ?_ (by first | omega | (simp; done) | (simp; omega)) _ | refine Below.drew ?_ | refine Below.setCell ?_ (by first | omega | (simp; done) | (simp; omega)) _ | refine Below.trans ?_ (Below.mono (by assumption) (by first | omega | (simp; done) | (simp; omega)))))
  go_wp2
  go_ret2
  exact ⟨rfl, t1⟩
set_option maxRecDepth 100000 in
set_option maxHeartbeats 4000000 in
theorem Bounds_good (h0 : accErr ⟨st, rate, keeps, ds⟩ = 0) : Calls Try.prog 15 #[.agg #[.int .i64 st, .int .i64 rate, .int .i64 keeps, .slice ad ds.length cd]] w fun e w' => (∃ a c, e = .returned (.tuple #[.slice a (bdOut ⟨st, rate, keeps, ds⟩).length c, .int .i64 0]) ∧ Recs2At w' a (bdOut ⟨st, rate, keeps, ds⟩)) ∧ Below w.heap.size w w' := by
  have G := good_of h0
  simp only at G
  have hst := (accErr_ok h0).st
  simp only at hst
  have wk := fun W (b : Below w.heap.size w W) => work_ok st rate keeps ds ad cd W (hd.below b) sm h0
  have C0 := Cells.new w #[.int .i64 st, .int .i64 rate, .int .i64 keeps, .slice ad ds.length cd] 55
  have hn6 := G.n
  have hO : bdOut ⟨st, rate, keeps, ds⟩ = bdL rate keeps ds st.toNat := by unfold bdOut; simp only [h0, if_true]
  obtain ⟨O, hOO⟩ : ∃ O, bdOut ⟨st, rate, keeps, ds⟩ = O := ⟨_, rfl⟩
  rw [hOO] at hO ⊢
  have HO := Lib.hid hO
  clear hO hOO
  go_enter Try.func15, Try.ntmps15
  go_wp2_with fail
  go_at_call 30
  refine (wk _ (by (repeat (first | exact Below.refl _ _ | refine Below.alloc ?_ (by first | omega | (simp; done) | (simp; omega)) _ | refine Below.drew ?_ | refine Below.setCell ?_ (by first | omega | (simp; done) | (simp; omega)) _ | refine Below.trans ?_ (Below.mono (by assumption) (by first | omega | (simp; done) | (simp; omega))))))).mono ?_
  rintro e w1 ⟨⟨B, bm, rfl, lB, lb, hw, hM⟩, b1⟩
  have t1 : Below w.heap.size w w1 := by (repeat (first | exact Below.refl _ _ | refine Below.alloc ?_ (by first | omega | (simp; done) | (simp; omega)) _ | refine Below.drew ?_ | refine Below.setCell ?_ (by first | omega | (simp; done) | (simp; omega)) _ | refine Below.trans ?_ (Below.mono (by assumption) (by first | omega | (simp; done) | (simp; omega)))))
  have lb' : w.heap.size ≤ bm := by simp at lb; omega
  clear lB lb wk
  have C1 := C0.below b1
  have q3 := C1.cell 0
  have lq := C1.lt
  simp at q3
  obtain ⟨m, hm⟩ : ∃ m : Nat, st = (m : Int) := ⟨st.toNat, by omega⟩
  subst hm
  obtain ⟨W2, hW2⟩ : ∃ z : World, z = (w1.alloc (.cells #[.func (.func 31) #[] #[]] 84)).alloc (.cells #[.func (.func 32) #[] #[]] 84) := ⟨_, rfl⟩
  have b2 : Below w1.heap.size w1 W2 := by rw [hW2]; exact ((Below.refl _ _).alloc (Nat.le_refl _) _).alloc (by simp) _
  have CL : Cells W2 w1.heap.size #[.func (.func 31) #[] #[]] 84 := by rw [hW2]; exact (Cells.new _ _ _).alloc _
  have CH : Cells W2 (w1.heap.size + 1) #[.func (.func 32) #[] #[]] 84 := by rw [hW2]; exact Cells.new' _ _ _ _ (by simp)
  have K2 := hw.below b2
  have M2 := hM.below b2
  have D2 := hd.below (t1.trans (b2.mono t1.size))
  have lB2 := K2.lt
  have l0 := CL.cell 0
  have l1 := CH.cell 0
  have ll := CL.lt
  have lh := CH.lt
  simp at l0 l1
  have hml : 30000 < maxLen := by unfold maxLen; omega
  have z2 := b2.size
  go_wp2
  rw [← hW2]
  clear hW2
  go_loopw [8, 9, 22] (fun u _ j Y => ∃ (s : Nat) (ao : Option Addr) (co : Nat), s ≤ m ∧ j = .int .i64 s ∧ u = .slice ao s co ∧ OwnL 60 2 W2.heap.size Y ao co s (flat2 (bdL rate keeps ds s)) ∧ Keep bm W2 Y ∧ MemoL Y bm (s * 2700) (shF rate keeps ds) [(Value.slice ao s co).ownBlock]) (fun _ _ j _ => m - (intOf j).toNat)
  case atStart => exact ⟨0, none, 0, Nat.zero_le _, rfl, rfl, (OwnL.nil _ _ _ _ : OwnL 60 2 W2.heap.size W2 none 0 0 []), Keep.refl M2.isMap, by have := M2.avoid (av' := [(Value.slice none 0 0).ownBlock]) (fun q e => by simp [Value.ownBlock] at e); simpa using this⟩
  case round =>
    obtain ⟨s, ao, co, hs, rfl, rfl, own, kp, hMs⟩ := hrel
    have hob := own_block own hMs.isMap
    by_cases hlt : s < m
    · have hsI : (s : Int) < (m : Int) := by omega
      have hav : ∀ Y, Keep bm wr Y → ∀ q, some q ∈ [(Value.slice ao s co).ownBlock] → q < Y.heap.size := fun Y kY q e => Nat.lt_of_lt_of_le (hob.2 q (List.mem_singleton.1 e).symm).2 kY.size
      have hsu := bdL_succ rate keeps ds s
      have hT1 := fun (n : Nat) (Y : World) (kY : Keep bm wr Y) (mY : MemoL Y bm n (shF rate keeps ds) [(Value.slice ao s co).ownBlock]) (hn : n + 1300 < maxLen) => endTruth_any B bm (m : Int) rate keeps ds ad cd (s : Int) n Y ((K2.keep kp).keep kY) ((D2.keep kp).keep kY) _ (hav Y kY) mY G hn 31 lowX (enters Try.func31 (by kernel_rfl) rfl) low_any lowX_in
      have hT2 := fun (n : Nat) (Y : World) (kY : Keep bm wr Y) (mY : MemoL Y bm n (shF rate keeps ds) [(Value.slice ao s co).ownBlock]) (hn : n + 1300 < maxLen) => endTruth_any B bm (m : Int) rate keeps ds ad cd (s : Int) n Y ((K2.keep kp).keep kY) ((D2.keep kp).keep kY) _ (hav Y kY) mY G hn 32 highX (enters Try.func32 (by kernel_rfl) rfl) high_any highX_in
      have hB : ∀ (X : Int → Int → Bool → Int) (n : Nat) (Y : World) (a : Option Addr) (c : Nat), Keep bm wr Y → MemoL Y bm n (shF rate keeps ds) [(Value.slice ao s co).ownBlock] → n + 6 < maxLen → IntsAt Y a (reachL rate keeps X (s : Int) ds ds.length) → Calls Try.prog 33 #[.pointer (some ⟨B, 0, none⟩), .slice a ds.length c, .int .i64 (s : Int)] Y fun e w' => e = .returned (.int .i64 (endB rate keeps ds X (s : Int))) ∧ Keep bm Y w' ∧ MemoL w' bm (n + 6) (shF rate keeps ds) [(Value.slice ao s co).ownBlock] := by
        intro X n Y a c kY mY hn hI
        have h := balance_any B bm (m : Int) rate keeps ds ad cd a (reachL rate keeps X (s : Int) ds ds.length) c (s : Int) n Y ((K2.keep kp).keep kY) ((D2.keep kp).keep kY) _ (hav Y kY) mY G hI (reachL_bd G X _ _) (by rw [reachL_len]; exact Nat.le_refl _) hn
        rw [reachL_len] at h
        exact h.mono fun e w' ⟨h1, h2, h3⟩ => ⟨h1, h2, h3.mono (by omega)⟩
      have hB1 := hB lowX
      have hB2 := hB highX
      obtain ⟨L1, hL1⟩ : ∃ L, reachL rate keeps lowX (s : Int) ds ds.length = L := ⟨_, rfl⟩
      obtain ⟨L2, hL2⟩ : ∃ L, reachL rate keeps highX (s : Int) ds ds.length = L := ⟨_, rfl⟩
      obtain ⟨v1, hv1⟩ : ∃ v, endB rate keeps ds lowX (s : Int) = v := ⟨_, rfl⟩
      obtain ⟨v2, hv2⟩ : ∃ v, endB rate keeps ds highX (s : Int) = v := ⟨_, rfl⟩
      rw [hv1, hv2] at hsu
      rw [hL1, hv1] at hB1
      rw [hL2, hv2] at hB2
      simp only [hL1] at hT1
      simp only [hL2] at hT2
      have Hsu := Lib.hid hsu
      have Hob := Lib.hid hob
      have i0 := kp.cell l0
      have i1 := kp.cell l1
      have hz := kp.size
      clear hsu hob hav hB hL1 hL2 hv1 hv2
      have kk : Keep bm wr wr.drew := Keep.of_below hMs.isMap (Below.refl _ _).drew
      have mm := hMs.below (Below.refl _ _).drew
      go_wp2
      obtain ⟨ri, hi0, hz0, hz1, hz2⟩ := elRange.info
      go_region_held3 (fun w' => w'.cell? ⟨w1.heap.size, 0, none⟩ = some (.func (.func 31) #[] #[]) ∧ w'.cell? ⟨w1.heap.size + 1, 0, none⟩ = some (.func (.func 32) #[] #[]))
        (first
          | exact ⟨kk.cell i0, kk.cell i1⟩
          | exact ⟨(kk.below ((Below.refl _ _).alloc (Nat.le_refl _) _)).cell i0, (kk.below ((Below.refl _ _).alloc (Nat.le_refl _) _)).cell i1⟩
          | exact ⟨kfin.cell l0, kfin.cell l1⟩
          | fail)
        (first | (go_at_call 34; (first | (with_reducible refine (hT1 _ _ kk mm (by omega)).mono ?_) | (with_reducible refine (hT2 _ _ kk mm (by omega)).mono ?_)); rintro e w9 ⟨⟨a9, c9, rfl, i9, -⟩, k9, m9⟩; replace kk := kk.trans k9; replace mm := m9) | (go_at_call 33; (first | (with_reducible refine (hB1 _ _ _ _ kk mm (by omega) i9).mono ?_) | (with_reducible refine (hB2 _ _ _ _ kk mm (by omega) i9).mono ?_)); rintro e w9 ⟨rfl, k9, m9⟩; replace kk := kk.trans k9; replace mm := m9) | (refine step_append_lies _ (by rfl) _ _ _ (by rfl) W2.heap.size 60 ri _ 2 16 Try.underlying50 hi0 hz0 hz1 hz2 rfl (by omega) (.slice ao s co) s _ (by rfl) ((own.keep kk).alloc _) ⟨w9.heap.size, 0, none⟩ 1 1 [.int .i64 v1, .int .i64 v2] (by rfl) (by rfl) (World.news_of_block (cs := #[.int .i64 v1, .int .i64 v2]) (t := 60) (fr := (0, 0)) (heap_alloc_new w9 _)) (by simp [Value.oneCell']) (by omega) (by unfold maxLen; omega) (by omega) (by have := (kp.trans kk).size; simp; omega) (w9.heap.size + 1) (by simp) ?_; intro gg cap w10 own10 hg10 hat10 hlt10; have ob10 := own_block (own.keep kk) mm.isMap; have bl : Below w9.heap.size w9 (w9.alloc (.cells #[.int .i64 v1, .int .i64 v2] 60)) := (Below.refl _ _).alloc (Nat.le_refl _) _; have kfin := ((kp.trans kk).below bl).own hg10 (fun q e => (ob10.2 q e).1) ob10.1; have mfin := (mm.below bl).turn (r' := some gg) hg10 ob10.1 (hat10.elim (fun e => .inl e.symm) (fun e => .inr (by rw [e]; simp)))))
      go_wp2
      go_roundw
      case rel => exact ⟨s + 1, _, _, by omega, by go_num, rfl, by rw [Hsu.out, flat2_snoc]; exact own10, kfin, mfin.mono (by omega)⟩
      case measure => simp [intOf]; omega
    · obtain rfl : s = m := by omega
      have hbl : (bdL rate keeps ds s).length = s := by simp [bdL]
      have i9 := own.recs2
      have hkb : Below w.heap.size w wr := by
        have tk := t1.trans (b2.mono t1.size)
        exact ⟨kp.grown.os.trans tk.os, kp.grown.tape.trans tk.tape, kp.grown.output.trans tk.output, Nat.le_trans tk.size kp.size, fun q hq => (kp.grown.block q (by have := tk.size; omega) (fun e => by have := Option.some.inj e; omega)).trans (tk.block q hq)⟩
      have hOs : O = bdL rate keeps ds s := HO.out
      subst hOs
      have Hbl := Lib.hid hbl
      clear hbl
      go_wp2
      go_ret2
      exact ⟨⟨ao, co, by rw [Hbl.out]; rfl, i9⟩, hkb⟩
end
end Go.Proofs.Ytaphfibfjepceaa

namespace Go.Proofs.Ytaphfibfjepceaa
set_option linter.unusedVariables false
set_option linter.unusedSimpArgs false
set_option linter.unnecessarySimpa false
open Go.RowKit Go.Flow Go.Shelf

def endX (high : Bool) : Int → Int → Bool → Int := if high then highX else lowX
def reachErr (a : Acc) (s : Int) : Int := if accErr a ≠ 0 then accErr a else if inR s 0 (a.st - 1) then 0 else 2
def reachOut (a : Acc) (s : Int) (high : Bool) : List Int := if accErr a = 0 ∧ inR s 0 (a.st - 1) = true then reachL a.rate a.keeps (endX high) s a.ds a.ds.length else []
theorem below_keep {bm : Nat} {w w1 w' : World} (t : Below w.heap.size w w1) (k : Keep bm w1 w') (h : w.heap.size ≤ bm) : Below w.heap.size w w' :=
  ⟨k.grown.os.trans t.os, k.grown.tape.trans t.tape, k.grown.output.trans t.output, Nat.le_trans t.size k.size, fun q hq => (k.grown.block q (by have := t.size; omega) (fun e => by have := Option.some.inj e; omega)).trans (t.block q hq)⟩
section
variable (st rate keeps : Int) (ds : List Dis) (ad : Option Addr) (cd : Nat) (s : Int) (w : World) (hd : DisAt w ad ds) (sm : AccSmall ⟨st, rate, keeps, ds⟩)
include hd sm
end
end Go.Proofs.Ytaphfibfjepceaa

namespace Go.Proofs.Ytaphfibfjepceaa
set_option linter.unusedVariables false
set_option linter.unusedSimpArgs false
set_option linter.unnecessarySimpa false
open Go.RowKit Go.Flow Go.Shelf

/-- Does a number of words fit a claim? -/
def fitB (rate keeps : Int) (d : Dis) (j : Nat) (p n : Int) : Bool := (sharesF rate keeps d.passed.length n).getD j 0 == p
def fitsL (rate keeps : Int) (d : Dis) (j : Nat) (p : Int) (m : Nat) : List Int := ((List.range m).filter fun (k : Nat) => fitB rate keeps d j p (d.lo + (k : Int))).map fun (k : Nat) => d.lo + (k : Int)
theorem fitsL_succ (rate keeps : Int) (d : Dis) (j : Nat) (p : Int) (m : Nat) : fitsL rate keeps d j p (m + 1) = fitsL rate keeps d j p m ++ if fitB rate keeps d j p (d.lo + (m : Int)) then [d.lo + (m : Int)] else [] := by
  unfold fitsL
  rw [List.range_succ, List.filter_append, List.map_append]
  congr 1
  by_cases h : fitB rate keeps d j p (d.lo + (m : Int)) = true
  · simp [h]
  · simp [h]
theorem fitsL_len (rate keeps : Int) (d : Dis) (j : Nat) (p : Int) (m : Nat) : (fitsL rate keeps d j p m).length ≤ m := by
  unfold fitsL
  rw [List.length_map]
  exact Nat.le_trans (List.length_filter_le _ _) (by simp)
section
variable (st rate keeps : Int) (ds : List Dis) (ad : Option Addr) (cd : Nat) (cq cs cp : Int) (w : World) (hd : DisAt w ad ds) (sm : AccSmall ⟨st, rate, keeps, ds⟩)
include hd sm
set_option maxRecDepth 100000 in
set_option maxHeartbeats 4000000 in
theorem Words_bad (E : Int) (hE : accErr ⟨st, rate, keeps, ds⟩ = E) (hne : E ≠ 0) : Calls Try.prog 19 #[.agg #[.int .i64 st, .int .i64 rate, .int .i64 keeps, .slice ad ds.length cd], .agg #[.int .i64 cq, .int .i64 cs, .int .i64 cp]] w fun e w' => e = .returned (.tuple #[.slice none 0 0, .int .i64 E]) ∧ Below w.heap.size w w' := by
  have wk := fun W (b : Below w.heap.size w W) => work_bad st rate keeps ds ad cd W E (hd.below b) sm hE hne
  have h1 : (E != 0) = true := by simpa using hne
  have h2 : (E == 0) = false := by simpa using hne
  clear hE
  go_enter Try.func19, Try.ntmps19
  go_wp2_with fail
  go_at_call 30
  refine (wk _ (by (repeat (first | exact Below.refl _ _ | refine Below.alloc ?_ (by first | omega | (simp; done) | (simp; omega)) _ | refine Below.drew ?_ | refine Below.setCell ?_ (by first | omega | (simp; done) | (simp; omega)) _ | refine Below.trans ?_ (Below.mono (by assumption) (by first | omega | (simp; done) | (simp; omega))))))).mono ?_
  rintro e w1 ⟨rfl, b1⟩
  have t1 : Below w.heap.size w w1 := by (repeat (first | exact Below.refl _ _ | refine Below.alloc ?_ (by first | omega | (simp; done) | (simp; omega)) _ | refine Below.drew ?_ | refine Below.setCell ?_ (by first | omega | (simp; done) | (simp; omega)) _ | refine Below.trans ?_ (Below.mono (by assumption) (by first | omega | (simp; done) | (simp; omega)))))
  go_wp2
  go_ret2
  exact ⟨rfl, t1⟩
set_option maxRecDepth 100000 in
set_option maxHeartbeats 4000000 in
theorem Words_out (h0 : accErr ⟨st, rate, keeps, ds⟩ = 0) (hs : inR cq 0 ((ds.length : Int) - 1) = false) : Calls Try.prog 19 #[.agg #[.int .i64 st, .int .i64 rate, .int .i64 keeps, .slice ad ds.length cd], .agg #[.int .i64 cq, .int .i64 cs, .int .i64 cp]] w fun e w' => e = .returned (.tuple #[.slice none 0 0, .int .i64 2]) ∧ Below w.heap.size w w' := by
  have G := good_of h0
  simp only at G
  have hn6 := G.n
  have wk := fun W (b : Below w.heap.size w W) => work_ok st rate keeps ds ad cd W (hd.below b) sm h0
  have C0 := (Cells.new w #[.int .i64 st, .int .i64 rate, .int .i64 keeps, .slice ad ds.length cd] 55).alloc (.cells #[.int .i64 cq, .int .i64 cs, .int .i64 cp] 63)
  have D0 := Cells.new' (w.alloc (.cells #[.int .i64 st, .int .i64 rate, .int .i64 keeps, .slice ad ds.length cd] 55)) #[.int .i64 cq, .int .i64 cs, .int .i64 cp] 63 (w.heap.size + 1) (by simp)
  have wl : IntKind.i64.wrap ((ds.length : Int) - 1) = (ds.length : Int) - 1 := IntWalk.i64_in _ (by omega)
  have wt := within_any cq 0 ((ds.length : Int) - 1)
  rw [hs] at wt
  clear hs
  go_enter Try.func19, Try.ntmps19
  go_wp2_with fail
  go_at_call 30
  refine (wk _ (by (repeat (first | exact Below.refl _ _ | refine Below.alloc ?_ (by first | omega | (simp; done) | (simp; omega)) _ | refine Below.drew ?_ | refine Below.setCell ?_ (by first | omega | (simp; done) | (simp; omega)) _ | refine Below.trans ?_ (Below.mono (by assumption) (by first | omega | (simp; done) | (simp; omega))))))).mono ?_
  rintro e w1 ⟨⟨B, bm, rfl, lB, lb, hw, hM⟩, b1⟩
  have t1 : Below w.heap.size w w1 := by (repeat (first | exact Below.refl _ _ | refine Below.alloc ?_ (by first | omega | (simp; done) | (simp; omega)) _ | refine Below.drew ?_ | refine Below.setCell ?_ (by first | omega | (simp; done) | (simp; omega)) _ | refine Below.trans ?_ (Below.mono (by assumption) (by first | omega | (simp; done) | (simp; omega)))))
  clear lB lb wk
  have C1 := C0.below b1
  have D1 := D0.below b1
  have q3 := C1.cell 3
  have lq := C1.lt
  have d0 := D1.cell 0
  have ld := D1.lt
  simp at q3 d0
  go_wp2_with (go_at_call 37; refine (wt _).mono ?_; rintro e w1 ⟨rfl, rfl⟩)
  go_ret2
  exact ⟨rfl, t1⟩
end
section
variable (st rate keeps : Int) (ds : List Dis) (ad : Option Addr) (cd : Nat) (i : Nat) (cs cp : Int) (w : World) (hd : DisAt w ad ds) (sm : AccSmall ⟨st, rate, keeps, ds⟩)
include hd sm
def err11 (l : List Int) : Int := if l = [] then 11 else 0
def wordsErr (rate keeps : Int) (d : Dis) (s p : Int) : Int := if idxF d.passed s < 0 then 7 else err11 (fitsL rate keeps d (idxF d.passed s).toNat p (d.hi - d.lo + 1).toNat)
def wordsOut (rate keeps : Int) (d : Dis) (s p : Int) : List Int := if idxF d.passed s < 0 then [] else fitsL rate keeps d (idxF d.passed s).toNat p (d.hi - d.lo + 1).toNat
set_option maxRecDepth 100000 in
set_option maxHeartbeats 4000000 in
theorem Words_in (h0 : accErr ⟨st, rate, keeps, ds⟩ = 0) (hi : i < ds.length) : Calls Try.prog 19 #[.agg #[.int .i64 st, .int .i64 rate, .int .i64 keeps, .slice ad ds.length cd], .agg #[.int .i64 (i : Int), .int .i64 cs, .int .i64 cp]] w fun e w' => (∃ a c, e = .returned (.tuple #[.slice a (wordsOut rate keeps ds[i] cs cp).length c, .int .i64 (wordsErr rate keeps ds[i] cs cp)]) ∧ IntsAt w' a (wordsOut rate keeps ds[i] cs cp)) ∧ Below w.heap.size w w' := by
  have G := good_of h0
  simp only at G
  have hn6 := G.n
  have hGw := G.w _ (List.getElem_mem hi)
  have hGp := G.p _ (List.getElem_mem hi)
  have hiI : (i : Int) < (ds.length : Int) := by omega
  have wk := fun W (b : Below w.heap.size w W) => work_ok st rate keeps ds ad cd W (hd.below b) sm h0
  have C0 := (Cells.new w #[.int .i64 st, .int .i64 rate, .int .i64 keeps, .slice ad ds.length cd] 55).alloc (.cells #[.int .i64 (i : Int), .int .i64 cs, .int .i64 cp] 63)
  have D0 := Cells.new' (w.alloc (.cells #[.int .i64 st, .int .i64 rate, .int .i64 keeps, .slice ad ds.length cd] 55)) #[.int .i64 (i : Int), .int .i64 cs, .int .i64 cp] 63 (w.heap.size + 1) (by simp)
  have wl : IntKind.i64.wrap ((ds.length : Int) - 1) = (ds.length : Int) - 1 := IntWalk.i64_in _ (by omega)
  have wt := within_any (i : Int) 0 ((ds.length : Int) - 1)
  rw [show inR (i : Int) 0 ((ds.length : Int) - 1) = true from inR_iff.2 (by omega)] at wt
  have hO : wordsOut rate keeps ds[i] cs cp = if idxF ds[i].passed cs < 0 then [] else fitsL rate keeps ds[i] (idxF ds[i].passed cs).toNat cp (ds[i].hi - ds[i].lo + 1).toNat := rfl
  have hE : wordsErr rate keeps ds[i] cs cp = if idxF ds[i].passed cs < 0 then 7 else err11 (fitsL rate keeps ds[i] (idxF ds[i].passed cs).toNat cp (ds[i].hi - ds[i].lo + 1).toNat) := rfl
  obtain ⟨O, hOO⟩ : ∃ O, wordsOut rate keeps ds[i] cs cp = O := ⟨_, rfl⟩
  obtain ⟨E, hEE⟩ : ∃ E, wordsErr rate keeps ds[i] cs cp = E := ⟨_, rfl⟩
  rw [hOO] at hO ⊢
  rw [hEE] at hE ⊢
  clear hOO hEE
  have hib := idxF_bd ds[i].passed cs
  have hsb := fun (x : Int) (hx : 1 ≤ x ∧ x ≤ 200) => shares_bd (k := ds[i].passed.length) G.r G.k hx hGp.1
  have HO := Lib.hid hO
  have HE := Lib.hid hE
  have Hsb := Lib.hid hsb
  clear hO hE hsb
  go_enter Try.func19, Try.ntmps19
  go_wp2_with fail
  go_at_call 30
  refine (wk _ (by (repeat (first | exact Below.refl _ _ | refine Below.alloc ?_ (by first | omega | (simp; done) | (simp; omega)) _ | refine Below.drew ?_ | refine Below.setCell ?_ (by first | omega | (simp; done) | (simp; omega)) _ | refine Below.trans ?_ (Below.mono (by assumption) (by first | omega | (simp; done) | (simp; omega))))))).mono ?_
  rintro e w1 ⟨⟨B, bm, rfl, lB, lb, hw, hM⟩, b1⟩
  have t1 : Below w.heap.size w w1 := by (repeat (first | exact Below.refl _ _ | refine Below.alloc ?_ (by first | omega | (simp; done) | (simp; omega)) _ | refine Below.drew ?_ | refine Below.setCell ?_ (by first | omega | (simp; done) | (simp; omega)) _ | refine Below.trans ?_ (Below.mono (by assumption) (by first | omega | (simp; done) | (simp; omega)))))
  have lb' : w.heap.size ≤ bm := by simp at lb; omega
  clear lB lb wk
  have hshr := fun (x : Int) (n : Nat) (W : World) (kW : Keep bm w1 W) av hav hM hx hn => shares_any B bm st rate keeps ds ad cd i x n W (hw.keep kW) ((hd.below t1).keep kW) av hav hM hi G.r G.k hx hGp (by omega) hn
  have C1 := C0.below b1
  have D1 := D0.below b1
  have q3 := C1.cell 3
  have lq := C1.lt
  have d0 := D1.cell 0
  have d1 := D1.cell 1
  have d2 := D1.cell 2
  have ld := D1.lt
  simp at q3 d0 d1 d2
  obtain ⟨bd, od, al, cl, rfl, hbd, e0, e1, e2, e3, hPa⟩ := (hd.below t1) i hi
  obtain ⟨d, hde⟩ : ∃ d, ds[i] = d := ⟨_, rfl⟩
  have HO2 : Hid (O = if idxF d.passed cs < 0 then [] else fitsL rate keeps d (idxF d.passed cs).toNat cp (d.hi - d.lo + 1).toNat) := Lib.hid (by rw [← hde]; exact HO.out)
  have HE2 : Hid (E = if idxF d.passed cs < 0 then 7 else err11 (fitsL rate keeps d (idxF d.passed cs).toNat cp (d.hi - d.lo + 1).toNat)) := Lib.hid (by rw [← hde]; exact HE.out)
  have Hsb2 : Hid (∀ x : Int, 1 ≤ x ∧ x ≤ 200 → ∀ v ∈ sharesF rate keeps d.passed.length x, 0 ≤ v ∧ v ≤ 8001) := Lib.hid (by rw [← hde]; exact Hsb.out)
  simp only [hde] at hshr
  rw [hde] at e0 e1 e2 e3 hPa hib hGw hGp
  clear HO HE Hsb hde
  obtain ⟨py, lo, hi2, l⟩ := d
  dsimp only at e0 e1 e2 e3 hPa hib hGw hGp hshr
  obtain ⟨W2, hW2⟩ : ∃ z : World, z = w1.alloc (.cells #[.int .i64 py, .int .i64 lo, .int .i64 hi2, .slice al l.length cl] 67) := ⟨_, rfl⟩
  have b2 : Below w1.heap.size w1 W2 := by rw [hW2]; exact (Below.refl _ _).alloc (Nat.le_refl _) _
  have CD : Cells W2 w1.heap.size #[.int .i64 py, .int .i64 lo, .int .i64 hi2, .slice al l.length cl] 67 := by rw [hW2]; exact Cells.new _ _ _
  have t2 := t1.trans (b2.mono t1.size)
  have iU := (hPa.below b2).at_
  have idx := index_any al l cl cs W2 (by omega) iU
  obtain ⟨ix, hix⟩ : ∃ ix, idxF l cs = ix := ⟨_, rfl⟩
  have ho := HO2.out
  have he := HE2.out
  dsimp only at ho he
  rw [hix] at hib ho he
  rw [show idxBy (fun y => cs == y) l 0 = ix from hix] at idx
  have HO := Lib.hid ho
  have HE := Lib.hid he
  clear ho he HO2 HE2 hix
  have C2 := C1.below b2
  have D2 := D1.below b2
  have f0 := D2.cell 0
  have f1 := D2.cell 1
  have f2 := D2.cell 2
  have lf := D2.lt
  have y1 := CD.cell 1
  have y2 := CD.cell 2
  have y3 := CD.cell 3
  have yl := CD.lt
  simp at f0 f1 f2 y1 y2 y3
  go_upto_region 7 with (first
    | (go_at_call 37; (with_reducible refine (wt _).mono ?_); rintro e _ ⟨rfl, rfl⟩)
    | fail)
  rw [← hW2]
  clear hW2
  go_wp2_with fail
  go_at_call 40
  refine idx.mono ?_
  rintro e _ ⟨rfl, rfl⟩
  by_cases h9 : ix < 0
  · have hd9 : decide (ix < 0) = true := by simpa using h9
    obtain rfl : O = [] := by rw [HO.out, if_pos h9]
    obtain rfl : E = 7 := by rw [HE.out, if_pos h9]
    clear HO HE
    go_wp2
    go_ret2
    exact ⟨⟨none, 0, rfl, IntsAt.nil _ _⟩, t2⟩
  · obtain ⟨j, rfl⟩ : ∃ j : Nat, ix = (j : Int) := ⟨ix.toNat, by omega⟩
    have hjl : j < l.length := by omega
    have hjI : (j : Int) < (l.length : Int) := by omega
    have hd9 : decide ((j : Int) < 0) = false := by simp
    obtain ⟨m, hm⟩ : ∃ m : Nat, hi2 - lo + 1 = (m : Int) := ⟨(hi2 - lo + 1).toNat, by omega⟩
    have ho := HO.out
    have he := HE.out
    rw [if_neg h9, hm] at ho he
    simp only [Int.toNat_natCast] at ho he
    have HO2 := Lib.hid ho
    have HE2 := Lib.hid he
    have m200 : m ≤ 200 := by omega
    have him : hi2 = lo + (m : Int) - 1 := by omega
    subst him
    have wm : IntKind.i64.wrap (lo + (m : Int) - 1 - lo) = (m : Int) - 1 := by rw [IntWalk.i64_in _ (by omega)]; omega
    have wm2 : IntKind.i64.wrap ((m : Int) - 1 + 1) = (m : Int) := by rw [IntWalk.i64_in _ (by omega)]; omega
    clear ho he HO HE hm h9
    have hMk := hM.below b2
    have k0 : Keep bm w1 W2 := Keep.of_below hM.isMap b2
    go_wp2
    go_loopw [10, 11, 12, 52] (fun u _ _ k X => ∃ (s : Nat) (ao : Option Addr) (co : Nat), s ≤ m ∧ k = .int .i64 s ∧ u = .slice ao (fitsL rate keeps ⟨py, lo, lo + (m : Int) - 1, l⟩ j cp s).length co ∧ OwnL 3 1 W2.heap.size X ao co (fitsL rate keeps ⟨py, lo, lo + (m : Int) - 1, l⟩ j cp s).length ((fitsL rate keeps ⟨py, lo, lo + (m : Int) - 1, l⟩ j cp s).map (Value.int .i64)) ∧ Keep bm W2 X ∧ MemoL X bm s (shF rate keeps ds) [(Value.slice ao (fitsL rate keeps ⟨py, lo, lo + (m : Int) - 1, l⟩ j cp s).length co).ownBlock]) (fun _ _ _ k _ => m - (intOf k).toNat)
    case atStart => exact ⟨0, none, 0, Nat.zero_le _, rfl, rfl, (OwnL.nil _ _ _ _ : OwnL 3 1 W2.heap.size W2 none 0 0 []), Keep.refl hMk.isMap, by have := hMk.avoid (av' := [(Value.slice none 0 0).ownBlock]) (fun q e => by simp [Value.ownBlock] at e); exact this⟩
    case round =>
      obtain ⟨s, ao, co, hs, rfl, rfl, own, kp, hMs⟩ := hrel
      rename World => X
      have hob := own_block own hMs.isMap
      have hln := fitsL_len rate keeps ⟨py, lo, lo + (m : Int) - 1, l⟩ j cp s
      have hsu := fitsL_succ rate keeps ⟨py, lo, lo + (m : Int) - 1, l⟩ j cp s
      obtain ⟨q, hq⟩ : ∃ q, (fitsL rate keeps ⟨py, lo, lo + (m : Int) - 1, l⟩ j cp s) = q := ⟨_, rfl⟩
      rw [hq] at own hMs hob hln hsu ⊢
      by_cases hlt : s < m
      · have hsI : (s : Int) < (m : Int) := by omega
        obtain ⟨x, hx⟩ : ∃ x, lo + (s : Int) = x := ⟨_, rfl⟩
        have hxb : 1 ≤ x ∧ x ≤ 200 := by omega
        have wx : IntKind.i64.wrap (lo + (s : Int)) = x := by rw [hx]; exact IntWalk.i64_in _ (by omega)
        have hfit : fitB rate keeps ⟨py, lo, lo + (m : Int) - 1, l⟩ j cp (lo + (s : Int)) = ((sharesF rate keeps l.length x).getD j 0 == cp) := by rw [hx]; rfl
        have hsh := fun (W : World) (kW : Keep bm X W) (mW : MemoL W bm s (shF rate keeps ds) [(Value.slice ao q.length co).ownBlock]) => hshr x s W ((k0.trans kp).trans kW) _ (fun r e => Nat.lt_of_lt_of_le (hob.2 r (List.mem_singleton.1 e).symm).2 kW.size) mW hxb (by unfold maxLen; omega)
        have hlen := sharesF_len rate keeps l.length x
        obtain ⟨v, hv⟩ : ∃ v, (sharesF rate keeps l.length x).getD j 0 = v := ⟨_, rfl⟩
        rw [hv] at hfit
        simp only [show lo + (s : Int) = x from hx] at hsu
        rw [show fitB rate keeps ⟨py, lo, lo + (m : Int) - 1, l⟩ j cp x = (v == cp) by rw [← hx]; exact hfit] at hsu
        have g0 := kp.cell f0
        have g2 := kp.cell f2
        have gl := Nat.lt_of_lt_of_le lf kp.size
        have z1 := kp.cell y1
        have zl := Nat.lt_of_lt_of_le yl kp.size
        have Hsu := Lib.hid hsu
        have Hob := Lib.hid hob
        have Hx := Lib.hid hx
        have Hlen := Lib.hid hlen
        have Hv := Lib.hid hv
        have hj2 : j < (sharesF rate keeps l.length x).length := by rw [hlen]; exact hjl
        clear hsu hob hx hlen hv hfit hq
        have kk : Keep bm X X.drew := Keep.of_below hMs.isMap (Below.refl _ _).drew
        have mm := hMs.below (Below.refl _ _).drew
        go_wp2
        go_region_law (first | (go_simp; go_at_call 39; (with_reducible refine (hsh _ kk mm).mono ?_); rintro e w9 ⟨⟨g9, c9, rfl, i9⟩, k9, m9⟩; have g2' := (kk.trans k9).cell g2; obtain ⟨b8, o8, h8, l8, e8⟩ := i9 j hj2; cases h8; rw [Hv.out] at e8; simp only [Nat.zero_add] at e8) | fail)
        all_goals
          have k19 := kk.trans k9
          have kp5 := kp.trans k19
          have own5 := own.keep k19
          have ob5 := own_block own5 m9.isMap
          cases hV : v == cp
          · rw [hV] at Hsu
            go_wp2
            go_roundw
            case rel =>
              have e1 := Hsu.out
              simp only [Bool.false_eq_true, if_false, List.append_nil] at e1
              exact ⟨s + 1, ao, co, by omega, by go_num, by rw [e1], by rw [e1]; exact own5, kp5, by rw [e1]; exact m9⟩
            case measure => simp [intOf]; omega
          · rw [hV] at Hsu
            go_wp2_with (at_builtin; refine wpList_app_lit_av elInt rfl _ _ rfl W2.heap.size ao q.length co _ rfl own5 1 1 rfl rfl (fun u hu => by simp at hu; subst hu; rfl) (by unfold maxLen; omega) (by omega) kp5.size (by omega) ?_; intro a9 c8 U3 own6 hg6 hv6)
            have bl : Below w9.heap.size w9 (w9.alloc (.cells #[.int .i64 x] 3)) := (Below.refl _ _).alloc (Nat.le_refl _) _
            have M6 := (m9.below bl).turn hg6 ob5.1 hv6
            have kp6 := (kp5.below bl).own hg6 (fun q e => (ob5.2 q e).1) ob5.1
            go_wp2
            go_roundw
            case rel =>
              have e1 := Hsu.out
              simp only [if_true] at e1
              exact ⟨s + 1, a9, c8, by omega, by go_num, by rw [e1]; simp, by rw [e1, List.map_append]; simpa using own6, kp6, by rw [e1]; simpa using M6⟩
            case measure => simp [intOf]; omega
      · obtain rfl : s = m := by omega
        have i9 := own.ints.1
        have hkb := below_keep t2 kp lb'
        have ho := HO2.out
        have he := HE2.out
        rw [hq] at ho he
        subst ho
        have He := Lib.hid he
        clear he HO2 HE2 hq
        by_cases hz : O = []
        · subst hz
          obtain rfl : E = 11 := by rw [He.out]; rfl
          have hb0 : (((([] : List Int).length : Nat) : Int) == 0) = true := by simp
          go_wp2
          go_ret2
          exact ⟨⟨none, ⟨0, rfl⟩, IntsAt.nil _ _⟩, hkb⟩
        · obtain rfl : E = 0 := by rw [He.out, err11, if_neg hz]
          have hb0 : ((O.length : Int) == 0) = false := by
            have : O.length ≠ 0 := fun e => hz (List.eq_nil_of_length_eq_zero e)
            simp; omega
          go_wp2
          go_ret2
          exact ⟨⟨ao, ⟨co, rfl⟩, i9⟩, hkb⟩
end
end Go.Proofs.Ytaphfibfjepceaa
