/- law helpers: word, ready -/
import Derived.Test.YtaphfibfjepceaaBv
namespace Go.Proofs.Ytaphfibfjepceaa
set_option linter.unusedVariables false
set_option linter.unusedSimpArgs false
set_option linter.unnecessarySimpa false
open Go.RowKit Go.Flow Go.Shelf

def U16s (ws : List Int) : Prop := ∀ x ∈ ws, 0 ≤ x ∧ x ≤ 65535
def wordN (ws : List Int) (k : Nat) : Nat := (ws.getD (k % ws.length) 0).toNat
theorem wordN_le {ws : List Int} (h : U16s ws) (k : Nat) : wordN ws k ≤ 65535 := by
  unfold wordN
  rcases Nat.eq_zero_or_pos ws.length with e | e
  · rw [List.length_eq_zero_iff.1 e]; simp
  · have hk : k % ws.length < ws.length := Nat.mod_lt _ e
    have := h _ (List.getElem_mem hk)
    simp [hk]; omega
set_option maxHeartbeats 1000000 in
theorem word_any (a : Option Addr) (ws : List Int) (c k : Nat) (w : World) (hw : U16At w a ws) (hu : U16s ws) (hl : ws.length ≤ 9223372036854775807) (hk : k ≤ 1000) :
    Calls Try.prog 29 #[.slice a ws.length c, .int .i64 (k : Int)] w fun e w' => e = .returned (.int .i64 (wordN ws k : Int)) ∧ w = w' := by
  rcases Nat.eq_zero_or_pos ws.length with e | e
  · have he : ((ws.length : Int) == 0) = true := by simp [e]
    have Hn : Hid ((wordN ws k : Int) = 0) := Lib.hid (by unfold wordN; rw [List.length_eq_zero_iff.1 e]; rfl)
    clear e
    go_enter Try.func29, Try.ntmps29
    go_wp2
    go_ret
    rw [Hn.out]
    exact ⟨rfl, rfl⟩
  · have he : ((ws.length : Int) == 0) = false := by rw [beq_eq_false_iff_ne]; omega
    have hne : ¬ ((ws.length : Int) = 0) := by omega
    have hkk : k % ws.length < ws.length := Nat.mod_lt _ e
    obtain ⟨j, hj⟩ : ∃ j, k % ws.length = j := ⟨_, rfl⟩
    have htm : Int.tmod (k : Int) (ws.length : Int) = (j : Int) := by rw [← hj]; rfl
    rw [hj] at hkk
    obtain ⟨b, off, rfl, hb, c0⟩ := hw j hkk
    have hgd : ws.getD j 0 = ws[j] := by simp [hkk]
    have hx := hu _ (List.getElem_mem hkk)
    have hjI : (j : Int) < (ws.length : Int) := by omega
    have Hn : Hid ((wordN ws k : Int) = ws[j]) := Lib.hid (by unfold wordN; rw [hj, hgd]; exact Int.toNat_of_nonneg hx.1)
    rw [hgd] at c0
    obtain ⟨x, hxe⟩ : ∃ x, ws[j] = x := ⟨_, rfl⟩
    rw [hxe] at c0 hx Hn
    have hwx : IntKind.i64.wrap x = x := IntWalk.i64_in _ (by omega)
    clear hxe hj e hgd
    go_enter Try.func29, Try.ntmps29
    go_wp2
    go_ret
    rw [Hn.out]
    exact ⟨rfl, rfl⟩
/-- A statement can use an account. -/
def readyB (a : Acc) : Bool := thinB a.ds && decide (accErr a = 0)
section
variable (st rate keeps : Int) (ds : List Dis) (ad : Option Addr) (cd : Nat) (w : World)
theorem rdy_cells {w w1 : World} {cs : Array Value} {T : TypeId} {W : World} (h : Below W.heap.size W w1) (k : Nat) {v : Value} (hv : cs[k]? = some v) (hW : W = w.alloc (.cells cs T) := by rfl) : w1.cell? ⟨w.heap.size, k, none⟩ = some v := by
  subst hW
  exact below_cell h (by rw [(Cells.new w cs T).cell]; exact hv)
end
def pickedF (lo hi : Int) (v : Nat) : Int := if v % 4 = 0 then lo else if v % 4 = 1 then hi else lo + ((v / 4 % (hi - lo + 1).toNat : Nat) : Int)
theorem pickedF_in {lo hi : Int} (h : lo ≤ hi) (v : Nat) : lo ≤ pickedF lo hi v ∧ pickedF lo hi v ≤ hi := by
  unfold pickedF
  split
  · omega
  · split
    · omega
    · have := Nat.mod_lt (v / 4) (show 0 < (hi - lo + 1).toNat by omega)
      omega
/-- The truth that words choose. -/
def pkL (ds : List Dis) (ws : List Int) : List Int := (List.range ds.length).map fun i => pickedF (ds.getD i ⟨0, 0, 0, []⟩).lo (ds.getD i ⟨0, 0, 0, []⟩).hi (wordN ws i)
theorem pkL_len (ds : List Dis) (ws : List Int) : (pkL ds ws).length = ds.length := by simp [pkL]
theorem pkL_at (ds : List Dis) (ws : List Int) {i : Nat} (h : i < ds.length) : (pkL ds ws).getD i 0 = pickedF ds[i].lo ds[i].hi (wordN ws i) := by simp [pkL, h]
end Go.Proofs.Ytaphfibfjepceaa
