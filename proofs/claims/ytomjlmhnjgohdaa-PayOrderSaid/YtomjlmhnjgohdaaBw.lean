/- law helpers: word, ready -/
import Derived.Test.YtomjlmhnjgohdaaBv
namespace Go.Proofs.Ytomjlmhnjgohdaa
set_option linter.unusedVariables false
set_option linter.unusedSimpArgs false
set_option linter.unnecessarySimpa false
open Go.RowKit Go.Flow Go.Shelf

def U16s (ws : List Int) : Prop := ∀ x ∈ ws, 0 ≤ x ∧ x ≤ 65535
def wordN (ws : List Int) (k : Nat) : Nat := (ws.getD (k % ws.length) 0).toNat
theorem wordN_le {ws : List Int} (h : U16s ws) (k : Nat) : wordN ws k ≤ 65535 := by
  unfold wordN
  rcases Nat.eq_zero_or_pos ws.length with e | e
  · rw [List.length_eq_zero_iff.1 e]; simp
  · have hk : k % ws.length < ws.length := Nat.mod_lt _ e
    have := h _ (List.getElem_mem hk)
    simp [hk]; omega
set_option maxHeartbeats 1000000 in
theorem word_any (a : Option Addr) (ws : List Int) (c k : Nat) (w : World) (hw : U16At w a ws) (hu : U16s ws) (hl : ws.length ≤ 9223372036854775807) (hk : k ≤ 1000) :
    Calls Try.prog 73 #[.slice a ws.length c, .int .i64 (k : Int)] w fun e w' => e = .returned (.int .i64 (wordN ws k : Int)) ∧ w = w' := by
  rcases Nat.eq_zero_or_pos ws.length with e | e
  · have he : ((ws.length : Int) == 0) = true := by simp [e]
    have Hn : Hid ((wordN ws k : Int) = 0) := Lib.hid (by unfold wordN; rw [List.length_eq_zero_iff.1 e]; rfl)
    clear e
    go_enter Try.func73, Try.ntmps73
    go_wp2
    go_ret
    rw [Hn.out]
    exact ⟨rfl, rfl⟩
  · have he : ((ws.length : Int) == 0) = false := by rw [beq_eq_false_iff_ne]; omega
    have hne : ¬ ((ws.length : Int) = 0) := by omega
    have hkk : k % ws.length < ws.length := Nat.mod_lt _ e
    obtain ⟨j, hj⟩ : ∃ j, k % ws.length = j := ⟨_, rfl⟩
    have htm : Int.tmod (k : Int) (ws.length : Int) = (j : Int) := by rw [← hj]; rfl
    rw [hj] at hkk
    obtain ⟨b, off, rfl, hb, c0⟩ := hw j hkk
    have hgd : ws.getD j 0 = ws[j] := by simp [hkk]
    have hx := hu _ (List.getElem_mem hkk)
    have hjI : (j : Int) < (ws.length : Int) := by omega
    have Hn : Hid ((wordN ws k : Int) = ws[j]) := Lib.hid (by unfold wordN; rw [hj, hgd]; exact Int.toNat_of_nonneg hx.1)
    rw [hgd] at c0
    obtain ⟨x, hxe⟩ : ∃ x, ws[j] = x := ⟨_, rfl⟩
    rw [hxe] at c0 hx Hn
    have hwx : IntKind.i64.wrap x = x := IntWalk.i64_in _ (by omega)
    clear hxe hj e hgd
    go_enter Try.func73, Try.ntmps73
    go_wp2
    go_ret
    rw [Hn.out]
    exact ⟨rfl, rfl⟩
/-- A statement can use an account. -/
def readyB (a : Acc) : Bool := thinB a.ds && decide (accErr a = 0)
section
variable (st rate keeps : Int) (ds : List Dis) (ad : Option Addr) (cd : Nat) (w : World)
theorem rdy_cells {w w1 : World} {cs : Array Value} {T : TypeId} {W : World} (h : Below W.heap.size W w1) (k : Nat) {v : Value} (hv : cs[k]? = some v) (hW : W = w.alloc (.cells cs T) := by rfl) : w1.cell? ⟨w.heap.size, k, none⟩ = some v := by
  subst hW
  exact below_cell h (by rw [(Cells.new w cs T).cell]; exact hv)
theorem ready_no (HT : Hid (thinB ds = false)) (hd : DisAt w ad ds) (big : Hid (AccBig ds)) :
    Calls Try.prog 38 #[.agg #[.int .i64 st, .int .i64 rate, .int .i64 keeps, .slice ad ds.length cd]] w fun e w' => e = .returned (.bool false) ∧ Below w.heap.size w w' := by
  go_enter Try.func38, Try.ntmps38
  go_wp2_with fail
  go_at_call 16
  refine (thin_eq st rate keeps ds ad cd _ false HT (hd.below (by (repeat (first | exact Below.refl _ _ | refine Below.alloc ?_ (by first | omega | (simp; done) | (simp; omega)) _ | refine Below.drew ?_ | refine Below.setCell ?_ (by first | omega | (simp; done) | (simp; omega)) _ | refine Below.trans ?_ (Below.mono (by assumption) (by first | omega | (simp; done) | (simp; omega))))))) big).mono ?_
  rintro e w1 ⟨rfl, b1⟩
  go_wp2_with fail
  go_ret
  exact ⟨rfl, by (repeat (first | exact Below.refl _ _ | refine Below.alloc ?_ (by first | omega | (simp; done) | (simp; omega)) _ | refine Below.drew ?_ | refine Below.setCell ?_ (by first | omega | (simp; done) | (simp; omega)) _ | refine Below.trans ?_ (Below.mono (by assumption) (by first | omega | (simp; done) | (simp; omega)))))⟩
theorem ready_yes (E : Int) (R : Bool) (HE : Hid (accErr ⟨st, rate, keeps, ds⟩ = E)) (hR : (E == 0) = R) (hT : thinB ds = true) (hd : DisAt w ad ds) (big : Hid (AccBig ds)) :
    Calls Try.prog 38 #[.agg #[.int .i64 st, .int .i64 rate, .int .i64 keeps, .slice ad ds.length cd]] w fun e w' => e = .returned (.bool R) ∧ Below w.heap.size w w' := by
  have HT := Lib.hid hT
  have SM := Lib.hid (thin_small (st := st) (rate := rate) (keeps := keeps) hT)
  clear hT
  go_enter Try.func38, Try.ntmps38
  go_wp2_with fail
  go_at_call 16
  refine (thin_eq st rate keeps ds ad cd _ true HT (hd.below (by (repeat (first | exact Below.refl _ _ | refine Below.alloc ?_ (by first | omega | (simp; done) | (simp; omega)) _ | refine Below.drew ?_ | refine Below.setCell ?_ (by first | omega | (simp; done) | (simp; omega)) _ | refine Below.trans ?_ (Below.mono (by assumption) (by first | omega | (simp; done) | (simp; omega))))))) big).mono ?_
  rintro e w1 ⟨rfl, b1⟩
  have t1 : Below w.heap.size w w1 := by (repeat (first | exact Below.refl _ _ | refine Below.alloc ?_ (by first | omega | (simp; done) | (simp; omega)) _ | refine Below.drew ?_ | refine Below.setCell ?_ (by first | omega | (simp; done) | (simp; omega)) _ | refine Below.trans ?_ (Below.mono (by assumption) (by first | omega | (simp; done) | (simp; omega)))))
  replace hd := hd.below t1
  have q0 := rdy_cells b1 0 rfl
  have q1 := rdy_cells b1 1 rfl
  have q2 := rdy_cells b1 2 rfl
  have q3 := rdy_cells b1 3 rfl
  have lB := cell_ltK q0
  go_wp2_with fail
  go_at_call 23
  refine (fault_eq st rate keeps ds ad cd _ E HE hd SM).mono ?_
  rintro e w2 ⟨rfl, b2⟩
  have t2 := t1.trans (b2.mono t1.size)
  go_wp2_with fail
  go_ret
  exact ⟨rfl, t2⟩
end
def pickedF (lo hi : Int) (v : Nat) : Int := if v % 4 = 0 then lo else if v % 4 = 1 then hi else lo + ((v / 4 % (hi - lo + 1).toNat : Nat) : Int)
theorem pickedF_in {lo hi : Int} (h : lo ≤ hi) (v : Nat) : lo ≤ pickedF lo hi v ∧ pickedF lo hi v ≤ hi := by
  unfold pickedF
  split
  · omega
  · split
    · omega
    · have := Nat.mod_lt (v / 4) (show 0 < (hi - lo + 1).toNat by omega)
      omega
/-- The truth that words choose. -/
def pkL (ds : List Dis) (ws : List Int) : List Int := (List.range ds.length).map fun i => pickedF (ds.getD i ⟨0, 0, 0, []⟩).lo (ds.getD i ⟨0, 0, 0, []⟩).hi (wordN ws i)
theorem pkL_len (ds : List Dis) (ws : List Int) : (pkL ds ws).length = ds.length := by simp [pkL]
theorem pkL_at (ds : List Dis) (ws : List Int) {i : Nat} (h : i < ds.length) : (pkL ds ws).getD i 0 = pickedF ds[i].lo ds[i].hi (wordN ws i) := by simp [pkL, h]
end Go.Proofs.Ytomjlmhnjgohdaa
