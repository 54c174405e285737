/- slices.DeleteFunc at ints -/
import Derived.Test.YtmplgcefhpobgaaCg
import Derived.Lib.SliceRun
namespace Go.Proofs.Ytmplgcefhpobgaa
set_option linter.unusedVariables false
set_option linter.unusedSimpArgs false
set_option linter.unnecessarySimpa false
open Go.RowKit Go.Flow

theorem zero_int (w : World) : (zeroValue 3).run Try.prog w = .ok (.int .i64 0) w := by kernel_rfl

theorem ys_at {xs ys : List Int} {j : Nat} (hd : ys.drop j = xs.drop j) (hl : ys.length = xs.length) (hj : j < xs.length) : ys[j]'(by omega) = xs[j] := by
  have h1 := List.drop_eq_getElem_cons (l := ys) (i := j) (by omega)
  have h2 := List.drop_eq_getElem_cons (l := xs) (i := j) hj
  rw [h1, h2] at hd
  exact (List.cons.inj hd).1
theorem ys_drop {xs ys : List Int} {j : Nat} (hd : ys.drop j = xs.drop j) : ys.drop (j + 1) = xs.drop (j + 1) := by
  have := congrArg (List.drop 1) hd
  simpa [List.drop_drop, Nat.add_comm] using this
theorem ys_set_take {ys : List Int} {i : Nat} {v : Int} (hi : i < ys.length) : (ys.set i v).take (i + 1) = ys.take i ++ [v] := by
  rw [List.take_succ_eq_append_getElem (by simpa using hi)]
  simp [List.take_set_of_le]
theorem ys_set_drop {ys : List Int} {i j : Nat} {v : Int} (hij : i < j) : (ys.set i v).drop j = ys.drop j := by
  rw [List.drop_set_of_lt hij]

theorem own_cell {base : Nat} {w : World} {g c n : Nat} {ys : List Int} (h : OwnL 3 1 base w (some ⟨g, 0, none⟩) c n (ys.map (Value.int .i64))) (i : Nat) (hi : i < ys.length) :
    w.frozen? ⟨g, i, none⟩ = false ∧ w.cell? ⟨g, i, none⟩ = some (.int .i64 ys[i]) := by
  rcases h.form with ⟨h1, _⟩ | ⟨g', h1, _, _, _, _, hf, hc⟩
  · cases h1
  · simp only [Option.some.injEq, Addr.mk.injEq, and_true] at h1
    subst h1
    exact ⟨hf i, hc i _ (by simp [hi])⟩

set_option maxRecDepth 100000 in
set_option maxHeartbeats 1000000 in
theorem deleteFunc_any (a : Option Addr) (xs : List Int) (c base : Nat) (g : FuncId) (first cap : Array Value) (p : Int → Bool) (w : World) (hl : xs.length ≤ 1000000) (hb : base ≤ w.heap.size)
    (hx : OwnL 3 1 base w a c xs.length (xs.map (Value.int .i64)))
    (hg : ∀ args w, Sem.run Try.prog (callFunc g args) w = .ok (.enter g args) w)
    (hp : ∀ x ∈ xs, ∀ w1, Below base w w1 → Calls Try.prog g (first.push (.int .i64 x) ++ cap) w1 fun r w' => r = .returned (.bool (p x)) ∧ Below w1.heap.size w1 w') :
    Calls Try.prog 67 #[.slice a xs.length c, .func (.func g) first cap] w fun e w' =>
      ∃ a' c', e = .returned (.slice a' (kept p xs).length c') ∧ OwnL 3 1 base w' a' c' (kept p xs).length ((kept p xs).map (Value.int .i64)) ∧ Below base w w' := by
  have hm : ∀ x ∈ xs, Meets Try.prog w g first cap (.int .i64 x) (p x) := fun x hxx w1 h1 => hp x hxx w1 (h1.mono hb)
  rcases idxBy_spec p xs 0 with ⟨hi, hno⟩ | ⟨i0, hi0, hi, hhit, hno⟩
  · rw [kept_none p xs hno]
    clear hno
    go_enter Try.func67, Try.ntmps67
    go_wp2_with (go_at_call 90; refine (indexFunc_int a xs c g first cap p w (by omega) hx.ints.1 hg hm).mono ?_; rintro e w1 ⟨rfl, hb1⟩; obtain ⟨hc1, hf1, hz1⟩ := bcell hb1; (try simp at hz1); (try (have hy0 : w.heap.size < w1.heap.size := by omega)); (try (have hy1 : w.heap.size + 1 < w1.heap.size := by omega)); (try (have hy2 : w.heap.size + 2 < w1.heap.size := by omega)))
    go_ret
    exact ⟨a, c, rfl, hx.kept hb1, hb1.mono hb⟩
  · have hne : ((i0 : Int) == -1) = false := by simp
    rw [Nat.zero_add] at hi
    obtain ⟨gb, rfl, hgb, hglt, hnc, hcm, hfz, hcl⟩ : ∃ gb, a = some ⟨gb, 0, none⟩ ∧ base ≤ gb ∧ gb < w.heap.size ∧ xs.length ≤ c ∧ c ≤ maxLen ∧ (∀ j, w.frozen? ⟨gb, j, none⟩ = false) ∧ (∀ j u, (xs.map (Value.int .i64))[j]? = some u → w.cell? ⟨gb, j, none⟩ = some u) := by
      rcases hx.form with ⟨_, _, h3, _⟩ | h
      · omega
      · exact h
    have hk0 : kept p (xs.take (i0 + 1)) = xs.take i0 := by
      rw [List.take_succ_eq_append_getElem hi0, kept_snoc, hhit]
      simp
      refine kept_none p _ fun x hxx => ?_
      obtain ⟨q, hq, rfl⟩ := List.mem_iff_getElem.1 hxx
      have hq' : q < i0 := by simp at hq; omega
      rw [List.getElem_take]
      exact hno q hq'
    clear hno hcl hfz hhit
    have Hi := Lib.hid hi
    go_enter Try.func67, Try.ntmps67
    go_wp2_with (go_at_call 90; refine (indexFunc_int _ xs c g first cap p w (by omega) hx.ints.1 hg hm).mono ?_; rintro e w1 ⟨rfl, hb1⟩; obtain ⟨hc1, hf1, hz1⟩ := bcell hb1; (try simp at hz1); (try (have hy0 : w.heap.size < w1.heap.size := by omega)); (try (have hy1 : w.heap.size + 1 < w1.heap.size := by omega)); (try (have hy2 : w.heap.size + 2 < w1.heap.size := by omega)))
    go_loopw [5, 6, 7] (fun iv jv _ wr => ∃ (i j : Nat) (ys : List Int), iv = .int .i64 i ∧ jv = .int .i64 j ∧ i < j ∧ j ≤ xs.length ∧ ys.length = xs.length ∧ i = (kept p (xs.take j)).length ∧ ys.take i = kept p (xs.take j) ∧ ys.drop j = xs.drop j ∧
        OwnL 3 1 base wr (some ⟨gb, 0, none⟩) c xs.length (ys.map (Value.int .i64)) ∧ Below base w wr) (fun _ jv _ _ => xs.length - (intOf jv).toNat)
    case atStart => exact ⟨i0, i0 + 1, xs, rfl, by go_num, by omega, by omega, rfl, by rw [hk0]; simp; omega, by rw [hk0], rfl, hx.kept hb1, hb1.mono hb⟩
    case round =>
      obtain ⟨i, j, ys, rfl, rfl, hij, hj, hyl, hik, htk, hdr, hown, hbel⟩ := hrel
      have Hik := Lib.hid hik
      have Htk := Lib.hid htk
      have Hdr := Lib.hid hdr
      have Hyl := Lib.hid hyl
      clear hik htk hdr hyl hi hne hc1 hf1
      by_cases hlt : j < xs.length
      · have hcj : wr.cell? ⟨gb, j, none⟩ = some (.int .i64 xs[j]) := by
          obtain ⟨b', off', hh, _, hc⟩ := hown.ints.1 j (by rw [Hyl.out]; exact hlt)
          simp only [Option.some.injEq, Addr.mk.injEq] at hh
          obtain ⟨rfl, rfl, _⟩ := hh
          rw [Nat.zero_add] at hc
          rw [hc, ← ys_at Hdr.out Hyl.out hlt]
          simp [Hyl.out, hlt]
        have hil : i < ys.length := by have := Hyl.out; omega
        go_wp2_with (refine (hp xs[j] (List.getElem_mem hlt) wr hbel).mono ?_; rintro e w2 ⟨rfl, hb2⟩; have own2 := hown.kept hb2; obtain ⟨hf2, hc2⟩ := own_cell own2 i hil; cases hpj : p xs[j])
        · go_roundw
          case rel =>
            refine ⟨i + 1, j + 1, ys.set i xs[j], by go_num, by go_num, by omega, by omega, by simp [Hyl.out], ?_, ?_, ?_, ?_, ?_⟩
            · rw [List.take_succ_eq_append_getElem hlt, kept_snoc, hpj]; simp [← Hik.out]
            · rw [List.take_succ_eq_append_getElem hlt, kept_snoc, hpj, ys_set_take hil, Htk.out]; simp
            · rw [ys_set_drop (by omega), ys_drop Hdr.out]
            · rw [List.map_set]; exact own_setCell own2 i _
            · exact (hbel.trans (hb2.mono (Nat.le_trans hb hbel.size))).setCell (p := ⟨gb, i, none⟩) hgb _
          case measure => simp [intOf]; omega
        · go_roundw
          case rel =>
            refine ⟨i, j + 1, ys, rfl, by go_num, by omega, by omega, Hyl.out, ?_, ?_, ys_drop Hdr.out, own2, hbel.trans (hb2.mono (Nat.le_trans hb hbel.size))⟩
            · rw [List.take_succ_eq_append_getElem hlt, kept_snoc, hpj]; simp [← Hik.out]
            · rw [List.take_succ_eq_append_getElem hlt, kept_snoc, hpj, Htk.out]; simp
          case measure => simp [intOf]; omega
      · obtain rfl : j = xs.length := by omega
        rw [List.take_length] at Hik Htk
        have hil : i < ys.length := by have := Hyl.out; omega
        have hclr : Sem.run Try.prog (Builtin.clear_ #[23] 0 #[Value.slice (some ⟨gb, i, none⟩) (xs.length - i) (c - i)]) wr = .ok (.tuple #[]) (wr.setCells gb i (List.replicate (xs.length - i) (.int .i64 0))) := by
          refine Lib.run_clear_slice wr _ 3 _ (.int .i64 0) Try.underlying23 zero_int rfl rfl gb i _ _ (by omega) ?_ ?_
          · intro q hq
            rw [(own_cell hown (i + q) (by have := Hyl.out; omega)).2]
            rfl
          · intro q hq
            exact (own_cell hown (i + q) (by have := Hyl.out; omega)).1
        go_wp2
        go_ret
        have h1 := own_setCells (List.replicate (xs.length - i) (.int .i64 0)) wr i _ (own_first hown (Nat.le_of_lt hij)) (Nat.le_refl _)
        rw [← List.map_take, Htk.out] at h1
        refine ⟨some ⟨gb, 0, none⟩, c, ?_, ?_, below_setCells _ _ _ _ hbel hgb⟩
        · rw [← Hik.out]; simp
        · rw [← Hik.out]; exact h1
end Go.Proofs.Ytmplgcefhpobgaa
