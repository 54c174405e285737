/- cipher: the reference's Fits -/
import Derived.Test.YtmplgcefhpobgaaDs
import Derived.Test.YtmplgcefhpobgaaDi
namespace Go.Proofs.Ytmplgcefhpobgaa
set_option linter.unusedVariables false
set_option linter.unusedSimpArgs false
set_option linter.unnecessarySimpa false
open Go.RowKit Go.Flow

def inn3 (s m a : Int) (codes : List Int) (gs : List (Int × Int)) (n : Nat) : List K3 := ((List.range n).filter fun (st : Nat) => gs.all (agreeOk s m a st codes)).map fun (st : Nat) => (m, a, (st : Int))
def mid3 (s m : Int) (codes : List Int) (gs : List (Int × Int)) (n : Nat) : List K3 := (List.range n).flatMap fun (a : Nat) => inn3 s m a codes gs s.toNat
def out3 (s : Int) (codes : List Int) (gs : List (Int × Int)) (n : Nat) : List K3 := (List.range n).flatMap fun (i : Nat) => mid3 s ((i : Int) + 1) codes gs s.toNat
def refKeys (s : Int) (codes : List Int) (gs : List (Int × Int)) : List K3 := out3 s codes gs (s - 1).toNat
theorem inn3_succ (s m a : Int) (codes : List Int) (gs : List (Int × Int)) (n : Nat) : inn3 s m a codes gs (n + 1) = inn3 s m a codes gs n ++ if gs.all (agreeOk s m a n codes) then [(m, a, (n : Int))] else [] := by
  unfold inn3
  rw [List.range_succ, List.filter_append, List.map_append]
  congr 1
  cases h : gs.all (agreeOk s m a n codes) <;> simp [h]
theorem mid3_succ (s m : Int) (codes : List Int) (gs : List (Int × Int)) (n : Nat) : mid3 s m codes gs (n + 1) = mid3 s m codes gs n ++ inn3 s m n codes gs s.toNat := by simp [mid3, List.range_succ]
theorem out3_succ (s : Int) (codes : List Int) (gs : List (Int × Int)) (n : Nat) : out3 s codes gs (n + 1) = out3 s codes gs n ++ mid3 s ((n : Int) + 1) codes gs s.toNat := by simp [out3, List.range_succ]
theorem inn3_len (s m a : Int) (codes : List Int) (gs : List (Int × Int)) (n : Nat) : (inn3 s m a codes gs n).length ≤ n := by
  unfold inn3; rw [List.length_map]; exact Nat.le_trans (List.length_filter_le _ _) (by simp)
theorem mid3_len (s m : Int) (codes : List Int) (gs : List (Int × Int)) (h1 : s ≤ 41) : ∀ n : Nat, (mid3 s m codes gs n).length ≤ 41 * n
  | 0 => by simp [mid3]
  | n + 1 => by
    rw [mid3_succ, List.length_append]
    have := mid3_len s m codes gs h1 n
    have := inn3_len s m n codes gs s.toNat
    omega
theorem out3_len (s : Int) (codes : List Int) (gs : List (Int × Int)) (h1 : s ≤ 41) : ∀ n : Nat, (out3 s codes gs n).length ≤ 1681 * n
  | 0 => by simp [out3]
  | n + 1 => by
    rw [out3_succ, List.length_append]
    have := out3_len s codes gs h1 n
    have := mid3_len s ((n : Int) + 1) codes gs h1 s.toNat
    omega
/-- The array of what was seen. -/
def seenG (s code : Int) (at' : Nat) (ks : List K3) : Array Value := ((List.range 41).map fun n => Value.bool (seenB s code at' ks n)).toArray
theorem seenG_size (s code : Int) (x : Nat) (l : List K3) : (seenG s code x l).size = 41 := by simp [seenG]
theorem seenG_get {s code : Int} {x : Nat} {l : List K3} {n : Nat} (h : n < 41) : (seenG s code x l)[n]? = some (.bool (seenB s code x l n)) := by simp [seenG, h]
theorem seenG_set {s code : Int} {x : Nat} {l : List K3} {k : K3} {n : Nat} (h : n < 41) (hn : decodeN s k.1 k.2.1 k.2.2 code x = n) : (seenG s code x l).setIfInBounds n (.bool true) = seenG s code x (l ++ [k]) := by
  apply Array.ext
  · simp [seenG_size]
  · intro i h1 h2
    have hi : i < 41 := by simpa [seenG_size] using h2
    have e1 := seenG_get (s := s) (code := code) (x := x) (l := l ++ [k]) hi
    have e2 := seenG_get (s := s) (code := code) (x := x) (l := l) hi
    rw [Array.getElem?_eq_getElem h2] at e1
    rw [Option.some.inj e1]
    rw [Array.getElem_setIfInBounds]
    by_cases hin : n = i
    · subst hin
      rw [if_pos rfl]
      simp [seenB, hn]
    · rw [if_neg hin]
      rw [Array.getElem?_eq_getElem (by rw [seenG_size]; exact hi)] at e2
      rw [Option.some.inj e2]
      have : (decodeN (s : Int) k.1 k.2.1 k.2.2 code x == (i : Int)) = false := by rw [hn]; simp; omega
      simp [seenB, this]
    rw [seenG_size]; exact hi
theorem seenG_nil (s code : Int) (x : Nat) : seenG s code x [] = #[.bool false, .bool false, .bool false, .bool false, .bool false, .bool false, .bool false, .bool false, .bool false, .bool false, .bool false, .bool false, .bool false, .bool false, .bool false, .bool false, .bool false, .bool false, .bool false, .bool false, .bool false, .bool false, .bool false, .bool false, .bool false, .bool false, .bool false, .bool false, .bool false, .bool false, .bool false, .bool false, .bool false, .bool false, .bool false, .bool false, .bool false, .bool false, .bool false, .bool false, .bool false] := by rfl
def keyCells (m a st : Int) : Array Value := #[.int .i64 m, .int .i64 a, .int .i64 st]
def cellInt (w : World) (b o : Nat) : Int := intOf ((w.cell? ⟨b, o, none⟩).getD undef)
theorem Cells.other {w : World} {g g' : Nat} {cs : Array Value} {T : TypeId} (h : Cells w g cs T) (hne : g ≠ g') (k : Nat) (v : Value) : Cells (w.setCell ⟨g', k, none⟩ v) g cs T :=
  (Below.heap_setCell w ⟨g', k, none⟩ v g hne).trans h
theorem cellInt_of {w : World} {b o : Nat} {n : Int} (h : w.cell? ⟨b, o, none⟩ = some (.int .i64 n)) : cellInt w b o = n := by unfold cellInt; rw [h]; rfl
set_option maxRecDepth 100000 in
set_option maxHeartbeats 8000000 in
theorem refFits_in (s wo : Int) (ak : Option Addr) (ks : List (Int × Int × Int)) (ck : Nat) (ad : Option Addr) (ds : List Int) (cd : Nat) (ac : Option Addr) (codes : List Int) (cc : Nat) (ag : Option Addr) (gs : List (Int × Int)) (cg : Nat) (x : Nat) (w : World) (hk : Recs3At w ak ks) (hd : IntsAt w ad ds) (lk : ks.length ≤ 1000) (ld : ds.length ≤ 1000) (hc : IntsAt w ac codes) (lc : codes.length ≤ 1000) (hg : Recs2At w ag gs) (lg : gs.length ≤ 1000)
    (hbk : bookErr s wo ks ds = 0) (hco : codes.all (plainOk s) = true) (hgo : gs.all (guessOk s codes.length) = true) (hx : x < codes.length) (N : Int) (HN : Hid (((refKeys s codes gs).length : Int) = N)) (L : List Int) (HL : Hid (possK s (codes.getD x 0) x (refKeys s codes gs) 41 = L)) :
    Calls Try.prog 44 #[.agg #[.int .i64 s, .int .i64 wo, .slice ak ks.length ck, .slice ad ds.length cd], .slice ac codes.length cc, .slice ag gs.length cg, .int .i64 x] w fun e w' => (∃ a c, e = .returned (.tuple #[.int .i64 N, .slice a L.length c]) ∧ IntsAt w' a L) ∧ Below w.heap.size w w' := by
  obtain ⟨_, _, s0, s1, hpr, _⟩ := bookErr_ok hbk
  have hprime : isPrime s = true := isPrime_iff.2 ⟨⟨s0, s1⟩, hpr⟩
  have Hprime := Lib.hid hprime

  obtain ⟨code, hcode⟩ : ∃ z, codes.getD x 0 = z := ⟨_, rfl⟩

  have Hgo := Lib.hid hgo
  have Hco := Lib.hid hco
  clear hbk hprime hgo hco hpr
  go_enter Try.func44, Try.ntmps44
  go_wp2
  obtain ⟨W0, hW0⟩ : ∃ z : World, z = ((w.alloc (.cells #[.int .i64 s, .int .i64 wo, .slice ak ks.length ck, .slice ad ds.length cd] 25)).alloc (.cells #[.bool false, .bool false, .bool false, .bool false, .bool false, .bool false, .bool false, .bool false, .bool false, .bool false, .bool false, .bool false, .bool false, .bool false, .bool false, .bool false, .bool false, .bool false, .bool false, .bool false, .bool false, .bool false, .bool false, .bool false, .bool false, .bool false, .bool false, .bool false, .bool false, .bool false, .bool false, .bool false, .bool false, .bool false, .bool false, .bool false, .bool false, .bool false, .bool false, .bool false, .bool false] 131)).alloc (.cells #[.int .i64 1, .int .i64 0, .int .i64 0] 82) := ⟨_, rfl⟩
  have t0 : Below w.heap.size w W0 := by rw [hW0]; (repeat (first | exact Below.refl _ _ | refine Below.alloc ?_ (by first | omega | (simp; done) | (simp; omega)) _ | refine Below.drew ?_ | refine Below.setCell ?_ (by first | omega | (simp; done) | (simp; omega)) _ | refine Below.trans ?_ (Below.mono (by assumption) (by first | omega | (simp; done) | (simp; omega)))))
  have z0 : W0.heap.size = w.heap.size + 1 + 1 + 1 := by rw [hW0]; simp
  have qB : BookAt W0 w.heap.size s wo ak ks.length ck ad ds.length cd := by rw [hW0]; exact (BookAt.new w s wo ak ks.length ck ad ds.length cd 25).below (((Below.refl _ _).alloc (Nat.le_refl _) _).alloc (by simp) _)
  have cS : Cells W0 (w.heap.size + 1) (seenG s code x []) 131 := by
    rw [hW0, seenG_nil]
    have := Cells.new (w.alloc (.cells #[.int .i64 s, .int .i64 wo, .slice ak ks.length ck, .slice ad ds.length cd] 25)) #[.bool false, .bool false, .bool false, .bool false, .bool false, .bool false, .bool false, .bool false, .bool false, .bool false, .bool false, .bool false, .bool false, .bool false, .bool false, .bool false, .bool false, .bool false, .bool false, .bool false, .bool false, .bool false, .bool false, .bool false, .bool false, .bool false, .bool false, .bool false, .bool false, .bool false, .bool false, .bool false, .bool false, .bool false, .bool false, .bool false, .bool false, .bool false, .bool false, .bool false, .bool false] 131
    rw [World.size_alloc] at this
    exact this.below ((Below.refl _ _).alloc (Nat.le_refl _) _)
  have cK : Cells W0 (w.heap.size + 1 + 1) (keyCells 1 0 0) 82 := by
    rw [hW0]
    have := Cells.new ((w.alloc (.cells #[.int .i64 s, .int .i64 wo, .slice ak ks.length ck, .slice ad ds.length cd] 25)).alloc (.cells #[.bool false, .bool false, .bool false, .bool false, .bool false, .bool false, .bool false, .bool false, .bool false, .bool false, .bool false, .bool false, .bool false, .bool false, .bool false, .bool false, .bool false, .bool false, .bool false, .bool false, .bool false, .bool false, .bool false, .bool false, .bool false, .bool false, .bool false, .bool false, .bool false, .bool false, .bool false, .bool false, .bool false, .bool false, .bool false, .bool false, .bool false, .bool false, .bool false, .bool false, .bool false] 131)) #[.int .i64 1, .int .i64 0, .int .i64 0] 82
    rw [World.size_alloc, World.size_alloc] at this
    exact this
  rw [← hW0]
  clear hW0
  obtain ⟨gk, hgk⟩ : ∃ z, w.heap.size + 1 + 1 = z := ⟨_, rfl⟩
  obtain ⟨gz, hgz⟩ : ∃ z, w.heap.size + 1 = z := ⟨_, rfl⟩
  obtain ⟨b0, hb0⟩ : ∃ z, w.heap.size = z := ⟨_, rfl⟩
  have ne1 : ¬ gz = gk := by omega
  have ne2 : ¬ gk = gz := by omega
  have hzk : gz ≤ gk := by omega
  have hwz : w.heap.size ≤ gz := by omega
  have hzW : gz ≤ W0.heap.size := by omega
  have hbz : b0 < gz := by omega
  rw [hgk] at cK ⊢
  rw [hgz] at cS ⊢
  rw [hb0] at qB ⊢
  have t0' : Below w.heap.size w W0 := t0
  clear hgk hgz hb0 z0 t0
  obtain ⟨S, hS⟩ := Int.eq_ofNat_of_zero_le (show 0 ≤ s by omega)
  have HS := Lib.hid hS
  have hSn : s.toNat = S := by omega
  have HSn := Lib.hid hSn
  have S2 : 2 ≤ S := by omega
  have S41 : S ≤ 41 := by omega
  have sS : s ≤ (S : Int) := by omega
  have Ss : (S : Int) ≤ s := by omega
  clear hS hSn
  obtain ⟨b, off, rfl, hbl, hcx⟩ := hc x hx
  have hxi : (x : Int) < (codes.length : Int) := by omega
  have hin : Hid ((decide ((0 : Int) ≤ x) && decide ((x : Int) ≤ (codes.length : Int) - 1)) = true) := Lib.hid (by simp; omega)
  rw [hcode] at hcx
  have hcb : 0 ≤ code ∧ code < s := by
    have := List.all_eq_true.1 Hco.out (codes.getD x 0) (by rw [List.getD_eq_getElem?_getD, List.getElem?_eq_getElem hx]; exact List.getElem_mem hx)
    rw [hcode] at this
    simp [plainOk] at this; omega
  obtain ⟨code0, code1⟩ := hcb
  have Hcode := Lib.hid hcode
  clear hcode
  go_loopw [10] (fun v wr => ∃ (k1 : Nat) (A T : Int), k1 + 1 ≤ S ∧ v = .int .i64 (((out3 s codes gs k1).length : Nat) : Int) ∧ Cells wr gk (keyCells ((k1 : Int) + 1) A T) 82 ∧ Cells wr gz (seenG s code x (out3 s codes gs k1)) 131 ∧ Below gz W0 wr) (fun _ wr => S - (cellInt wr gk 0).toNat)
  case atStart => exact ⟨0, 0, 0, by omega, rfl, cK, cS, Below.refl _ _⟩
  case round =>
    obtain ⟨k1, A1, T1, hk1, rfl, cK1, cS1, bR1⟩ := hrel
    have qB1 := qB.c0
    have p1 := (bR1.cell (p := ⟨b0, 0, none⟩) hbz).trans qB1
    have lb1 := cell_lt p1
    simp only at lb1
    have m1 := cK1.cell 0
    have f1 := cK1.frozen 0
    have f1' := cK1.frozen 1
    have m1' := cK1.cell 1
    simp [keyCells] at m1 m1'
    have l1 := cK1.lt
    have o1 := out3_len s codes gs s1 k1
    have hme1 := cellInt_of m1
    have Hme1 := Lib.hid hme1
    clear hme1
    by_cases hlt1 : k1 + 1 < S
    · have d1 : decide (((k1 : Int) + 1) < s) = true := by rw [decide_eq_true_eq]; omega
      have cK1' := cK1.set 1 (.int .i64 0)
      have bR1' := bR1.setCell (p := ⟨gk, 1, none⟩) (show gz ≤ gk from hzk) (.int .i64 0)
      have cS1' : Cells (wr.setCell ⟨gk, 1, none⟩ (.int .i64 0)) gz (seenG s code x (out3 s codes gs k1)) 131 := cS1.other (show gz ≠ gk from ne1) 1 _
      go_wp2
      obtain ⟨x1, hx1⟩ : ∃ z : World, z = wr.setCell ⟨gk, 1, none⟩ (.int .i64 0) := ⟨_, rfl⟩
      rw [← hx1] at cK1' bR1' cS1' ⊢
      replace cK1' : Cells x1 gk (keyCells ((k1 : Int) + 1) 0 T1) 82 := cK1'
      clear hx1 m1 f1 f1' m1' l1 p1 lb1
      go_loopw [10] (fun v wr => ∃ (k2 : Nat) (T : Int), k2 ≤ S ∧ v = .int .i64 (((out3 s codes gs k1 ++ mid3 s ((k1 : Int) + 1) codes gs k2).length : Nat) : Int) ∧ Cells wr gk (keyCells ((k1 : Int) + 1) k2 T) 82 ∧ Cells wr gz (seenG s code x (out3 s codes gs k1 ++ mid3 s ((k1 : Int) + 1) codes gs k2)) 131 ∧ Below gz W0 wr) (fun _ wr => S - (cellInt wr gk 1).toNat)
      case atStart => exact ⟨0, T1, by omega, by simp [mid3], cK1', by simpa [mid3] using cS1', bR1'⟩
      case round =>
        obtain ⟨k2, T2, hk2, rfl, cK2, cS2, bR2⟩ := hrel
        have p2 := (bR2.cell (p := ⟨b0, 0, none⟩) hbz).trans qB.c0
        have lb2 := cell_lt p2
        simp only at lb2
        have m2 := cK2.cell 1
        have m20 := cK2.cell 0
        have f2 := cK2.frozen 0
        have f2' := cK2.frozen 2
        have m2' := cK2.cell 2
        simp [keyCells] at m2 m2' m20
        have l2 := cK2.lt
        have o2 := mid3_len s ((k1 : Int) + 1) codes gs s1 k2
        have hme2 := cellInt_of m2
        have Hme2 := Lib.hid hme2
        clear hme2
        by_cases hlt2 : k2 < S
        · have d2 : decide ((k2 : Int) < s) = true := by rw [decide_eq_true_eq]; omega
          have cK2' := cK2.set 2 (.int .i64 0)
          have bR2' := bR2.setCell (p := ⟨gk, 2, none⟩) (show gz ≤ gk from hzk) (.int .i64 0)
          have cS2' : Cells (wr.setCell ⟨gk, 2, none⟩ (.int .i64 0)) gz (seenG s code x (out3 s codes gs k1 ++ mid3 s ((k1 : Int) + 1) codes gs k2)) 131 := cS2.other (show gz ≠ gk from ne1) 2 _
          go_wp2
          obtain ⟨x2, hx2⟩ : ∃ z : World, z = wr.setCell ⟨gk, 2, none⟩ (.int .i64 0) := ⟨_, rfl⟩
          rw [← hx2] at cK2' bR2' cS2' ⊢
          replace cK2' : Cells x2 gk (keyCells ((k1 : Int) + 1) k2 0) 82 := cK2'
          clear hx2 m2 f2 f2' m2' l2 p2 lb2 m20
          go_loopw [10] (fun v wr => ∃ (k3 : Nat), k3 ≤ S ∧ v = .int .i64 (((out3 s codes gs k1 ++ mid3 s ((k1 : Int) + 1) codes gs k2 ++ inn3 s ((k1 : Int) + 1) k2 codes gs k3).length : Nat) : Int) ∧ Cells wr gk (keyCells ((k1 : Int) + 1) k2 k3) 82 ∧ Cells wr gz (seenG s code x (out3 s codes gs k1 ++ mid3 s ((k1 : Int) + 1) codes gs k2 ++ inn3 s ((k1 : Int) + 1) k2 codes gs k3)) 131 ∧ Below gz W0 wr) (fun _ wr => S - (cellInt wr gk 2).toNat)
          case atStart => exact ⟨0, by omega, by simp [inn3], cK2', by simpa [inn3] using cS2', bR2'⟩
          case round =>
            obtain ⟨k3, hk3, rfl, cK3, cS3, bR3⟩ := hrel
            have tR3 : Below w.heap.size w wr := t0'.trans (bR3.mono hwz)
            have p30 := (bR3.cell (p := ⟨b0, 0, none⟩) hbz).trans qB.c0
            have p31 := (bR3.cell (p := ⟨b0, 1, none⟩) hbz).trans qB.c1
            have p32 := (bR3.cell (p := ⟨b0, 2, none⟩) hbz).trans qB.c2
            have p33 := (bR3.cell (p := ⟨b0, 3, none⟩) hbz).trans qB.c3
            have lb3 := cell_lt p30
            simp only at lb3
            have m30 := cK3.cell 0
            have m31 := cK3.cell 1
            have m32 := cK3.cell 2
            have f32 := cK3.frozen 2
            simp [keyCells] at m30 m31 m32
            have l3 := cK3.lt
            have o3 := inn3_len s ((k1 : Int) + 1) k2 codes gs k3
            have hme3 := cellInt_of m32
            have Hme3 := Lib.hid hme3
            clear hme3
            have hnx : out3 s codes gs k1 ++ mid3 s ((k1 : Int) + 1) codes gs k2 ++ inn3 s ((k1 : Int) + 1) k2 codes gs (k3 + 1) = (out3 s codes gs k1 ++ mid3 s ((k1 : Int) + 1) codes gs k2 ++ inn3 s ((k1 : Int) + 1) k2 codes gs k3) ++ if gs.all (agreeOk s ((k1 : Int) + 1) k2 k3 codes) then [((k1 : Int) + 1, (k2 : Int), (k3 : Int))] else [] := by
              rw [inn3_succ, ← List.append_assoc]
            have hDl : (out3 s codes gs k1 ++ mid3 s ((k1 : Int) + 1) codes gs k2 ++ inn3 s ((k1 : Int) + 1) k2 codes gs k3).length ≤ 1000000 := by
              rw [List.length_append, List.length_append]; omega
            obtain ⟨D, hD⟩ : ∃ D, out3 s codes gs k1 ++ mid3 s ((k1 : Int) + 1) codes gs k2 ++ inn3 s ((k1 : Int) + 1) k2 codes gs k3 = D := ⟨_, rfl⟩
            rw [hD] at hnx hDl cS3 ⊢
            have HD := Lib.hid hD
            have Hnx := Lib.hid hnx
            clear hD hnx
            by_cases hlt3 : k3 < S
            · have d3 : decide ((k3 : Int) < s) = true := by rw [decide_eq_true_eq]; omega
              obtain ⟨r, hr⟩ : ∃ r, gs.all (agreeOk s ((k1 : Int) + 1) k2 k3 codes) = r := ⟨_, rfl⟩
              have Hr := Lib.hid hr
              clear hr
              cases r
              · have hN2 : out3 s codes gs k1 ++ mid3 s ((k1 : Int) + 1) codes gs k2 ++ inn3 s ((k1 : Int) + 1) k2 codes gs (k3 + 1) = D := by rw [Hnx.out, Hr.out]; simp
                have HN2 := Lib.hid hN2
                clear hN2
                go_wp2_with fail
                go_at_call 82
                refine (refAgrees_any s wo _ _ ((k1 : Int) + 1) k2 k3 (some ⟨b, off, none⟩) codes cc ag gs cg false Hr _ (by omega) (by omega) (by omega) (by omega) (by omega) (by omega) (by omega) (by omega) (hc.below tR3) lc (hg.below tR3) lg Hgo).mono ?_
                rintro e w3 ⟨rfl, b3⟩
                have cK4 := cK3.below b3
                have n32 := below_cell b3 m32
                have g32 := cK4.frozen 2
                have l4 := cK4.lt
                have cK5 := cK4.set 2 (.int .i64 ((k3 : Int) + 1))
                have cS5 := (cS3.below b3).other (show gz ≠ gk from ne1) 2 (.int .i64 ((k3 : Int) + 1))
                have bR5 := (bR3.trans (b3.mono (by have := bR3.size; omega))).setCell (p := ⟨gk, 2, none⟩) (show gz ≤ gk from hzk) (.int .i64 ((k3 : Int) + 1))
                go_wp2_with fail
                go_roundw
                case rel => exact ⟨k3 + 1, by omega, by rw [HN2.out], by exact_mod_cast cK5, by rw [HN2.out]; exact cS5, bR5⟩
                case measure => rw [Hme3.out]; have h := cK5.cell 2; simp [keyCells] at h; rw [cellInt_of h]; omega
              · have hN2 : out3 s codes gs k1 ++ mid3 s ((k1 : Int) + 1) codes gs k2 ++ inn3 s ((k1 : Int) + 1) k2 codes gs (k3 + 1) = D ++ [((k1 : Int) + 1, (k2 : Int), (k3 : Int))] := by rw [Hnx.out, Hr.out]; simp
                have HN2 := Lib.hid hN2
                clear hN2
                go_wp2_with fail
                go_at_call 82
                refine (refAgrees_any s wo _ _ ((k1 : Int) + 1) k2 k3 (some ⟨b, off, none⟩) codes cc ag gs cg true Hr _ (by omega) (by omega) (by omega) (by omega) (by omega) (by omega) (by omega) (by omega) (hc.below tR3) lc (hg.below tR3) lg Hgo).mono ?_
                rintro e w3 ⟨rfl, b3⟩
                have cK4 := cK3.below b3
                have cS4 := cS3.below b3
                have bR4 := bR3.trans (b3.mono (by have := bR3.size; omega))
                have n30 := below_cell b3 m30
                have n31 := below_cell b3 m31
                have n32 := below_cell b3 m32
                have g32 := cK4.frozen 2
                have l4 := cK4.lt
                have r30 := below_cell b3 p30
                have r31 := below_cell b3 p31
                have r32 := below_cell b3 p32
                have r33 := below_cell b3 p33
                have lb4 := Nat.lt_of_lt_of_le lb3 b3.size
                clear p30 p31 p32 p33 m30 m31 m32 f32
                go_wp2_with fail
                go_at_call 23
                refine (in_eq x 0 ((codes.length : Int) - 1) true hin _).mono ?_
                rintro e _ ⟨rfl, rfl⟩
                have hmean : ∀ V, Calls Try.prog 70 #[.agg #[.int .i64 s, .int .i64 wo, .slice ak ks.length ck, .slice ad ds.length cd], .agg #[.int .i64 ((k1 : Int) + 1), .int .i64 k2, .int .i64 k3], .int .i64 code, .int .i64 x] V fun e w' => e = .returned (.int .i64 (decodeN s ((k1 : Int) + 1) k2 k3 code x)) ∧ Below V.heap.size V w' := fun V => means_any s wo ((k1 : Int) + 1) k2 k3 code x _ _ V Hprime.out (by omega) (by omega) (by omega) (by omega) (by omega) (by omega) (by omega) (by omega) (by omega) (by omega)
                have hdb := decodeN_b s ((k1 : Int) + 1) k2 k3 code x (by omega)
                obtain ⟨v, hv⟩ : ∃ v, decodeN s ((k1 : Int) + 1) k2 k3 code x = v := ⟨_, rfl⟩
                rw [hv] at hdb hmean
                obtain ⟨n, rfl⟩ := Int.eq_ofNat_of_zero_le hdb.1
                have hn41 : n < 41 := by omega
                have hn41i : (n : Int) < 41 := by omega
                have Hv := Lib.hid hv
                have lbw : b < w3.heap.size := Nat.lt_of_lt_of_le hbl (tR3.trans (b3.mono tR3.size)).size
                have hcx3 := below_cell (tR3.trans (b3.mono tR3.size)) hcx
                clear hv hdb
                go_wp2_with fail
                (refine wp_region_ext 9 (by kernel_rfl) (by kernel_rfl) ?_; simp only [List.take_succ_cons, List.take_zero, List.drop_succ_cons, List.drop_zero]; (repeat (go_big_quiet_step (((go_at_call 70; refine Calls_ext (hmean _)))))); refine wpQuiet_nil ?_; rintro _ ⟨ex, rfl⟩; have hex := ex.below; have hexz := ex.size; (try simp at hexz); (try (have hy0 : w.heap.size < ex.to.heap.size := by omega)); (try (have hy1 : w.heap.size + 1 < ex.to.heap.size := by omega)); (try (have hy2 : w.heap.size + 2 < ex.to.heap.size := by omega)))
                have bE := ex.below
                obtain ⟨x4, hx4⟩ : ∃ z : World, z = ex.to := ⟨_, rfl⟩
                rw [← hx4] at bE ⊢
                clear hx4 hex hexz
                have cK6 := cK4.below bE
                have cS6 := cS4.below bE
                have u32 := below_cell bE n32
                have h32 := cK6.frozen 2
                have l6 := cK6.lt
                have s6 := cS6.cell n
                rw [seenG_get hn41] at s6
                have z6 := cS6.frozen n
                have lz6 := cS6.lt
                have cK7 := (cK6.other (show gk ≠ gz from ne2) n (.bool true)).set 2 (.int .i64 ((k3 : Int) + 1))
                have cS7 := (cS6.set n (.bool true)).other (show gz ≠ gk from ne1) 2 (.int .i64 ((k3 : Int) + 1))
                rw [seenG_set (k := ((k1 : Int) + 1, (k2 : Int), (k3 : Int))) hn41 Hv.out] at cS7
                have bR7 := ((bR4.trans (bE.mono (by have := bR4.size; omega))).setCell (p := ⟨gz, n, none⟩) (Nat.le_refl _) (.bool true)).setCell (p := ⟨gk, 2, none⟩) (show gz ≤ gk from hzk) (.int .i64 ((k3 : Int) + 1))
                clear n30 n31 n32 g32 r30 r31 r32 r33 hcx3
                go_wp2_with fail
                go_roundw
                case rel => exact ⟨k3 + 1, by omega, by rw [HN2.out]; simp, by exact_mod_cast cK7, by rw [HN2.out]; exact cS7, bR7⟩
                case measure => rw [Hme3.out]; have h := cK7.cell 2; simp [keyCells] at h; rw [cellInt_of h]; omega
            · have hk3S : k3 = S := by omega
              have d3 : decide ((k3 : Int) < s) = false := by rw [decide_eq_false_iff_not]; omega
              have hN2 : out3 s codes gs k1 ++ mid3 s ((k1 : Int) + 1) codes gs (k2 + 1) = D := by rw [mid3_succ, ← List.append_assoc, ← HD.out, HSn.out, hk3S]
              have HN2 := Lib.hid hN2
              clear hN2
              have cK5 := cK3.set 1 (.int .i64 ((k2 : Int) + 1))
              have cS5 := cS3.other (show gz ≠ gk from ne1) 1 (.int .i64 ((k2 : Int) + 1))
              have bR5 := bR3.setCell (p := ⟨gk, 1, none⟩) (show gz ≤ gk from hzk) (.int .i64 ((k2 : Int) + 1))
              have f31 := cK3.frozen 1
              clear hk3S
              go_wp2_with fail
              go_roundw
              case rel => exact ⟨k2 + 1, k3, by omega, by rw [HN2.out], by exact_mod_cast cK5, by rw [HN2.out]; exact cS5, bR5⟩
              case measure => rw [Hme2.out]; have h := cK5.cell 1; simp [keyCells] at h; rw [cellInt_of h]; omega
        · have hk2S : k2 = S := by omega
          have d2 : decide ((k2 : Int) < s) = false := by rw [decide_eq_false_iff_not]; omega
          have hN2 : out3 s codes gs (k1 + 1) = out3 s codes gs k1 ++ mid3 s ((k1 : Int) + 1) codes gs k2 := by rw [out3_succ, HSn.out, hk2S]
          have hDl : (out3 s codes gs k1 ++ mid3 s ((k1 : Int) + 1) codes gs k2).length ≤ 1000000 := by rw [List.length_append]; omega
          obtain ⟨D, hD⟩ : ∃ D, out3 s codes gs k1 ++ mid3 s ((k1 : Int) + 1) codes gs k2 = D := ⟨_, rfl⟩
          rw [hD] at hN2 hDl cS2 ⊢
          have HN2 := Lib.hid hN2
          have cK5 := cK2.set 0 (.int .i64 ((k1 : Int) + 1 + 1))
          have cS5 := cS2.other (show gz ≠ gk from ne1) 0 (.int .i64 ((k1 : Int) + 1 + 1))
          have bR5 := bR2.setCell (p := ⟨gk, 0, none⟩) (show gz ≤ gk from hzk) (.int .i64 ((k1 : Int) + 1 + 1))
          clear hk2S hN2 hD
          go_wp2_with fail
          go_roundw
          case rel => exact ⟨k1 + 1, k2, T2, by omega, by rw [HN2.out], by exact_mod_cast cK5, by rw [HN2.out]; exact cS5, bR5⟩
          case measure => rw [Hme1.out]; have h := cK5.cell 0; simp [keyCells] at h; rw [cellInt_of h]; omega
    · have hk1S : k1 + 1 = S := by omega
      have d1 : decide (((k1 : Int) + 1) < s) = false := by rw [decide_eq_false_iff_not]; omega
      have hN2 : refKeys s codes gs = out3 s codes gs k1 := by unfold refKeys; rw [show (s - 1).toNat = k1 by omega]
      obtain ⟨D, hD⟩ : ∃ D, out3 s codes gs k1 = D := ⟨_, rfl⟩
      rw [hD] at hN2 o1 cS1 ⊢
      have HN2 := Lib.hid hN2
      have tR1 : Below w.heap.size w wr := t0'.trans (bR1.mono hwz)
      obtain ⟨w9, hw9⟩ : ∃ z : World, z = wr := ⟨_, rfl⟩
      subst hw9
      have hP41 : possK s code x D 41 = L := by rw [← HL.out, Hcode.out, HN2.out]
      have HP41 := Lib.hid hP41
      have HNN : Hid ((D.length : Int) = N) := Lib.hid (by rw [← HN.out, HN2.out])
      clear hk1S hN2 hD hP41
      go_wp2_with fail
      go_loopw [13, 14] (fun v i wq => ∃ (k : Nat) (a' : Option Addr) (c' : Nat), k ≤ 41 ∧ i = .int .i64 k ∧ v = .slice a' (possK s code x D k).length c' ∧ OwnL 3 1 w9.heap.size wq a' c' (possK s code x D k).length ((possK s code x D k).map (Value.int .i64)) ∧ Below w9.heap.size w9 wq) (fun _ i _ => 41 - (intOf i).toNat)
      case atStart => exact ⟨0, none, 0, Nat.zero_le _, rfl, rfl, OwnL.nil _ _ _ _, Below.refl _ _⟩
      case round =>
        obtain ⟨k, a', c', hk41, rfl, rfl, own, bQ⟩ := hrel
        have hsn := possK_succ s code x D k
        have hpl := possK_len s code x D k
        obtain ⟨PL, hPL⟩ : ∃ PL, possK s code x D k = PL := ⟨_, rfl⟩
        rw [hPL] at hsn hpl own ⊢
        by_cases hlt : k < 41
        · have c1 := (cS1.below bQ).cell k
          rw [seenG_get hlt] at c1
          have l1 := (cS1.below bQ).lt
          have hki : (k : Int) < 41 := by omega
          have Hsn := Lib.hid hsn
          have HPL := Lib.hid hPL
          clear hsn hPL
          cases hb : seenB s code x D k
          · rw [hb] at c1
            have Hb := Lib.hid hb
            clear hb
            go_wp2
            go_roundw
            case rel => exact ⟨k + 1, a', c', by omega, by go_num, by rw [Hsn.out, Hb.out]; simp, by rw [Hsn.out, Hb.out]; simpa using own, bQ⟩
            case measure => simp [intOf]; omega
          · rw [hb] at c1
            have Hb := Lib.hid hb
            clear hb
            go_wp2_with (at_builtin; refine wpList_app_lit elInt rfl _ _ rfl w9.heap.size _ PL.length c' _ rfl own 1 1 rfl rfl (fun u hu => ?c1) ?c2 ?c3 ?c4 ?_)
            case c1 => simp at hu; subst hu; rfl
            case c2 => unfold maxLen; omega
            case c3 => omega
            case c4 => exact bQ.size
            intro a6 c6 w6 o6 b6
            go_wp2
            go_roundw
            case rel => exact ⟨k + 1, a6, c6, by omega, by go_num, by rw [Hsn.out, Hb.out]; simp, by rw [Hsn.out, Hb.out]; simpa using o6, bQ.trans b6⟩
            case measure => simp [intOf]; omega
        · have hkq : k = 41 := by omega
          have HPL : Hid (L = PL) := Lib.hid (by rw [← hPL, hkq]; exact HP41.out.symm)
          subst hkq
          have iPL := own.ints.1
          clear hsn hPL own
          go_wp2
          go_ret2
          rw [HPL.out, HNN.out]
          exact ⟨⟨a', c', rfl, iPL⟩, tR1.trans (bQ.mono tR1.size)⟩

set_option maxRecDepth 100000 in
set_option maxHeartbeats 8000000 in
theorem refFits_out (s wo : Int) (ak : Option Addr) (ks : List (Int × Int × Int)) (ck : Nat) (ad : Option Addr) (ds : List Int) (cd : Nat) (ac : Option Addr) (codes : List Int) (cc : Nat) (ag : Option Addr) (gs : List (Int × Int)) (cg : Nat) (x : Int) (w : World) (hk : Recs3At w ak ks) (hd : IntsAt w ad ds) (lk : ks.length ≤ 1000) (ld : ds.length ≤ 1000) (hc : IntsAt w ac codes) (lc : codes.length ≤ 1000) (hg : Recs2At w ag gs) (lg : gs.length ≤ 1000)
    (hbk : bookErr s wo ks ds = 0) (hco : codes.all (plainOk s) = true) (hgo : gs.all (guessOk s codes.length) = true) (hx : (decide (0 ≤ x) && decide (x ≤ (codes.length : Int) - 1)) = false) (N : Int) (HN : Hid (((refKeys s codes gs).length : Int) = N)) (L : List Int) (HL : Hid ([] = L)) :
    Calls Try.prog 44 #[.agg #[.int .i64 s, .int .i64 wo, .slice ak ks.length ck, .slice ad ds.length cd], .slice ac codes.length cc, .slice ag gs.length cg, .int .i64 x] w fun e w' => (∃ a c, e = .returned (.tuple #[.int .i64 N, .slice a L.length c]) ∧ IntsAt w' a L) ∧ Below w.heap.size w w' := by
  obtain ⟨_, _, s0, s1, hpr, _⟩ := bookErr_ok hbk
  have hprime : isPrime s = true := isPrime_iff.2 ⟨⟨s0, s1⟩, hpr⟩
  have Hprime := Lib.hid hprime

  have Hgo := Lib.hid hgo
  have Hco := Lib.hid hco
  clear hbk hprime hgo hco hpr
  go_enter Try.func44, Try.ntmps44
  go_wp2
  obtain ⟨W0, hW0⟩ : ∃ z : World, z = ((w.alloc (.cells #[.int .i64 s, .int .i64 wo, .slice ak ks.length ck, .slice ad ds.length cd] 25)).alloc (.cells #[.bool false, .bool false, .bool false, .bool false, .bool false, .bool false, .bool false, .bool false, .bool false, .bool false, .bool false, .bool false, .bool false, .bool false, .bool false, .bool false, .bool false, .bool false, .bool false, .bool false, .bool false, .bool false, .bool false, .bool false, .bool false, .bool false, .bool false, .bool false, .bool false, .bool false, .bool false, .bool false, .bool false, .bool false, .bool false, .bool false, .bool false, .bool false, .bool false, .bool false, .bool false] 131)).alloc (.cells #[.int .i64 1, .int .i64 0, .int .i64 0] 82) := ⟨_, rfl⟩
  have t0 : Below w.heap.size w W0 := by rw [hW0]; (repeat (first | exact Below.refl _ _ | refine Below.alloc ?_ (by first | omega | (simp; done) | (simp; omega)) _ | refine Below.drew ?_ | refine Below.setCell ?_ (by first | omega | (simp; done) | (simp; omega)) _ | refine Below.trans ?_ (Below.mono (by assumption) (by first | omega | (simp; done) | (simp; omega)))))
  have z0 : W0.heap.size = w.heap.size + 1 + 1 + 1 := by rw [hW0]; simp
  have qB : BookAt W0 w.heap.size s wo ak ks.length ck ad ds.length cd := by rw [hW0]; exact (BookAt.new w s wo ak ks.length ck ad ds.length cd 25).below (((Below.refl _ _).alloc (Nat.le_refl _) _).alloc (by simp) _)
  have cS : Cells W0 (w.heap.size + 1) (seenG s 0 0 []) 131 := by
    rw [hW0, seenG_nil]
    have := Cells.new (w.alloc (.cells #[.int .i64 s, .int .i64 wo, .slice ak ks.length ck, .slice ad ds.length cd] 25)) #[.bool false, .bool false, .bool false, .bool false, .bool false, .bool false, .bool false, .bool false, .bool false, .bool false, .bool false, .bool false, .bool false, .bool false, .bool false, .bool false, .bool false, .bool false, .bool false, .bool false, .bool false, .bool false, .bool false, .bool false, .bool false, .bool false, .bool false, .bool false, .bool false, .bool false, .bool false, .bool false, .bool false, .bool false, .bool false, .bool false, .bool false, .bool false, .bool false, .bool false, .bool false] 131
    rw [World.size_alloc] at this
    exact this.below ((Below.refl _ _).alloc (Nat.le_refl _) _)
  have cK : Cells W0 (w.heap.size + 1 + 1) (keyCells 1 0 0) 82 := by
    rw [hW0]
    have := Cells.new ((w.alloc (.cells #[.int .i64 s, .int .i64 wo, .slice ak ks.length ck, .slice ad ds.length cd] 25)).alloc (.cells #[.bool false, .bool false, .bool false, .bool false, .bool false, .bool false, .bool false, .bool false, .bool false, .bool false, .bool false, .bool false, .bool false, .bool false, .bool false, .bool false, .bool false, .bool false, .bool false, .bool false, .bool false, .bool false, .bool false, .bool false, .bool false, .bool false, .bool false, .bool false, .bool false, .bool false, .bool false, .bool false, .bool false, .bool false, .bool false, .bool false, .bool false, .bool false, .bool false, .bool false, .bool false] 131)) #[.int .i64 1, .int .i64 0, .int .i64 0] 82
    rw [World.size_alloc, World.size_alloc] at this
    exact this
  rw [← hW0]
  clear hW0
  obtain ⟨gk, hgk⟩ : ∃ z, w.heap.size + 1 + 1 = z := ⟨_, rfl⟩
  obtain ⟨gz, hgz⟩ : ∃ z, w.heap.size + 1 = z := ⟨_, rfl⟩
  obtain ⟨b0, hb0⟩ : ∃ z, w.heap.size = z := ⟨_, rfl⟩
  have ne1 : ¬ gz = gk := by omega
  have ne2 : ¬ gk = gz := by omega
  have hzk : gz ≤ gk := by omega
  have hwz : w.heap.size ≤ gz := by omega
  have hzW : gz ≤ W0.heap.size := by omega
  have hbz : b0 < gz := by omega
  rw [hgk] at cK ⊢
  rw [hgz] at cS ⊢
  rw [hb0] at qB ⊢
  have t0' : Below w.heap.size w W0 := t0
  clear hgk hgz hb0 z0 t0
  obtain ⟨S, hS⟩ := Int.eq_ofNat_of_zero_le (show 0 ≤ s by omega)
  have HS := Lib.hid hS
  have hSn : s.toNat = S := by omega
  have HSn := Lib.hid hSn
  have S2 : 2 ≤ S := by omega
  have S41 : S ≤ 41 := by omega
  have sS : s ≤ (S : Int) := by omega
  have Ss : (S : Int) ≤ s := by omega
  clear hS hSn
  have hin := Lib.hid hx
  clear hx
  go_loopw [10] (fun v wr => ∃ (k1 : Nat) (A T : Int), k1 + 1 ≤ S ∧ v = .int .i64 (((out3 s codes gs k1).length : Nat) : Int) ∧ Cells wr gk (keyCells ((k1 : Int) + 1) A T) 82 ∧ Cells wr gz (seenG s 0 0 []) 131 ∧ Below gz W0 wr) (fun _ wr => S - (cellInt wr gk 0).toNat)
  case atStart => exact ⟨0, 0, 0, by omega, rfl, cK, cS, Below.refl _ _⟩
  case round =>
    obtain ⟨k1, A1, T1, hk1, rfl, cK1, cS1, bR1⟩ := hrel
    have qB1 := qB.c0
    have p1 := (bR1.cell (p := ⟨b0, 0, none⟩) hbz).trans qB1
    have lb1 := cell_lt p1
    simp only at lb1
    have m1 := cK1.cell 0
    have f1 := cK1.frozen 0
    have f1' := cK1.frozen 1
    have m1' := cK1.cell 1
    simp [keyCells] at m1 m1'
    have l1 := cK1.lt
    have o1 := out3_len s codes gs s1 k1
    have hme1 := cellInt_of m1
    have Hme1 := Lib.hid hme1
    clear hme1
    by_cases hlt1 : k1 + 1 < S
    · have d1 : decide (((k1 : Int) + 1) < s) = true := by rw [decide_eq_true_eq]; omega
      have cK1' := cK1.set 1 (.int .i64 0)
      have bR1' := bR1.setCell (p := ⟨gk, 1, none⟩) (show gz ≤ gk from hzk) (.int .i64 0)
      have cS1' : Cells (wr.setCell ⟨gk, 1, none⟩ (.int .i64 0)) gz (seenG s 0 0 []) 131 := cS1.other (show gz ≠ gk from ne1) 1 _
      go_wp2
      obtain ⟨x1, hx1⟩ : ∃ z : World, z = wr.setCell ⟨gk, 1, none⟩ (.int .i64 0) := ⟨_, rfl⟩
      rw [← hx1] at cK1' bR1' cS1' ⊢
      replace cK1' : Cells x1 gk (keyCells ((k1 : Int) + 1) 0 T1) 82 := cK1'
      clear hx1 m1 f1 f1' m1' l1 p1 lb1
      go_loopw [10] (fun v wr => ∃ (k2 : Nat) (T : Int), k2 ≤ S ∧ v = .int .i64 (((out3 s codes gs k1 ++ mid3 s ((k1 : Int) + 1) codes gs k2).length : Nat) : Int) ∧ Cells wr gk (keyCells ((k1 : Int) + 1) k2 T) 82 ∧ Cells wr gz (seenG s 0 0 []) 131 ∧ Below gz W0 wr) (fun _ wr => S - (cellInt wr gk 1).toNat)
      case atStart => exact ⟨0, T1, by omega, by simp [mid3], cK1', by simpa [mid3] using cS1', bR1'⟩
      case round =>
        obtain ⟨k2, T2, hk2, rfl, cK2, cS2, bR2⟩ := hrel
        have p2 := (bR2.cell (p := ⟨b0, 0, none⟩) hbz).trans qB.c0
        have lb2 := cell_lt p2
        simp only at lb2
        have m2 := cK2.cell 1
        have m20 := cK2.cell 0
        have f2 := cK2.frozen 0
        have f2' := cK2.frozen 2
        have m2' := cK2.cell 2
        simp [keyCells] at m2 m2' m20
        have l2 := cK2.lt
        have o2 := mid3_len s ((k1 : Int) + 1) codes gs s1 k2
        have hme2 := cellInt_of m2
        have Hme2 := Lib.hid hme2
        clear hme2
        by_cases hlt2 : k2 < S
        · have d2 : decide ((k2 : Int) < s) = true := by rw [decide_eq_true_eq]; omega
          have cK2' := cK2.set 2 (.int .i64 0)
          have bR2' := bR2.setCell (p := ⟨gk, 2, none⟩) (show gz ≤ gk from hzk) (.int .i64 0)
          have cS2' : Cells (wr.setCell ⟨gk, 2, none⟩ (.int .i64 0)) gz (seenG s 0 0 []) 131 := cS2.other (show gz ≠ gk from ne1) 2 _
          go_wp2
          obtain ⟨x2, hx2⟩ : ∃ z : World, z = wr.setCell ⟨gk, 2, none⟩ (.int .i64 0) := ⟨_, rfl⟩
          rw [← hx2] at cK2' bR2' cS2' ⊢
          replace cK2' : Cells x2 gk (keyCells ((k1 : Int) + 1) k2 0) 82 := cK2'
          clear hx2 m2 f2 f2' m2' l2 p2 lb2 m20
          go_loopw [10] (fun v wr => ∃ (k3 : Nat), k3 ≤ S ∧ v = .int .i64 (((out3 s codes gs k1 ++ mid3 s ((k1 : Int) + 1) codes gs k2 ++ inn3 s ((k1 : Int) + 1) k2 codes gs k3).length : Nat) : Int) ∧ Cells wr gk (keyCells ((k1 : Int) + 1) k2 k3) 82 ∧ Cells wr gz (seenG s 0 0 []) 131 ∧ Below gz W0 wr) (fun _ wr => S - (cellInt wr gk 2).toNat)
          case atStart => exact ⟨0, by omega, by simp [inn3], cK2', by simpa [inn3] using cS2', bR2'⟩
          case round =>
            obtain ⟨k3, hk3, rfl, cK3, cS3, bR3⟩ := hrel
            have tR3 : Below w.heap.size w wr := t0'.trans (bR3.mono hwz)
            have p30 := (bR3.cell (p := ⟨b0, 0, none⟩) hbz).trans qB.c0
            have p31 := (bR3.cell (p := ⟨b0, 1, none⟩) hbz).trans qB.c1
            have p32 := (bR3.cell (p := ⟨b0, 2, none⟩) hbz).trans qB.c2
            have p33 := (bR3.cell (p := ⟨b0, 3, none⟩) hbz).trans qB.c3
            have lb3 := cell_lt p30
            simp only at lb3
            have m30 := cK3.cell 0
            have m31 := cK3.cell 1
            have m32 := cK3.cell 2
            have f32 := cK3.frozen 2
            simp [keyCells] at m30 m31 m32
            have l3 := cK3.lt
            have o3 := inn3_len s ((k1 : Int) + 1) k2 codes gs k3
            have hme3 := cellInt_of m32
            have Hme3 := Lib.hid hme3
            clear hme3
            have hnx : out3 s codes gs k1 ++ mid3 s ((k1 : Int) + 1) codes gs k2 ++ inn3 s ((k1 : Int) + 1) k2 codes gs (k3 + 1) = (out3 s codes gs k1 ++ mid3 s ((k1 : Int) + 1) codes gs k2 ++ inn3 s ((k1 : Int) + 1) k2 codes gs k3) ++ if gs.all (agreeOk s ((k1 : Int) + 1) k2 k3 codes) then [((k1 : Int) + 1, (k2 : Int), (k3 : Int))] else [] := by
              rw [inn3_succ, ← List.append_assoc]
            have hDl : (out3 s codes gs k1 ++ mid3 s ((k1 : Int) + 1) codes gs k2 ++ inn3 s ((k1 : Int) + 1) k2 codes gs k3).length ≤ 1000000 := by
              rw [List.length_append, List.length_append]; omega
            obtain ⟨D, hD⟩ : ∃ D, out3 s codes gs k1 ++ mid3 s ((k1 : Int) + 1) codes gs k2 ++ inn3 s ((k1 : Int) + 1) k2 codes gs k3 = D := ⟨_, rfl⟩
            rw [hD] at hnx hDl ⊢
            have HD := Lib.hid hD
            have Hnx := Lib.hid hnx
            clear hD hnx
            by_cases hlt3 : k3 < S
            · have d3 : decide ((k3 : Int) < s) = true := by rw [decide_eq_true_eq]; omega
              obtain ⟨r, hr⟩ : ∃ r, gs.all (agreeOk s ((k1 : Int) + 1) k2 k3 codes) = r := ⟨_, rfl⟩
              have Hr := Lib.hid hr
              clear hr
              cases r
              · have hN2 : out3 s codes gs k1 ++ mid3 s ((k1 : Int) + 1) codes gs k2 ++ inn3 s ((k1 : Int) + 1) k2 codes gs (k3 + 1) = D := by rw [Hnx.out, Hr.out]; simp
                have HN2 := Lib.hid hN2
                clear hN2
                go_wp2_with fail
                go_at_call 82
                refine (refAgrees_any s wo _ _ ((k1 : Int) + 1) k2 k3 ac codes cc ag gs cg false Hr _ (by omega) (by omega) (by omega) (by omega) (by omega) (by omega) (by omega) (by omega) (hc.below tR3) lc (hg.below tR3) lg Hgo).mono ?_
                rintro e w3 ⟨rfl, b3⟩
                have cK4 := cK3.below b3
                have n32 := below_cell b3 m32
                have g32 := cK4.frozen 2
                have l4 := cK4.lt
                have cK5 := cK4.set 2 (.int .i64 ((k3 : Int) + 1))
                have cS5 := (cS3.below b3).other (show gz ≠ gk from ne1) 2 (.int .i64 ((k3 : Int) + 1))
                have bR5 := (bR3.trans (b3.mono (by have := bR3.size; omega))).setCell (p := ⟨gk, 2, none⟩) (show gz ≤ gk from hzk) (.int .i64 ((k3 : Int) + 1))
                go_wp2_with fail
                go_roundw
                case rel => exact ⟨k3 + 1, by omega, by rw [HN2.out], by exact_mod_cast cK5, by exact cS5, bR5⟩
                case measure => rw [Hme3.out]; have h := cK5.cell 2; simp [keyCells] at h; rw [cellInt_of h]; omega
              · have hN2 : out3 s codes gs k1 ++ mid3 s ((k1 : Int) + 1) codes gs k2 ++ inn3 s ((k1 : Int) + 1) k2 codes gs (k3 + 1) = D ++ [((k1 : Int) + 1, (k2 : Int), (k3 : Int))] := by rw [Hnx.out, Hr.out]; simp
                have HN2 := Lib.hid hN2
                clear hN2
                go_wp2_with fail
                go_at_call 82
                refine (refAgrees_any s wo _ _ ((k1 : Int) + 1) k2 k3 ac codes cc ag gs cg true Hr _ (by omega) (by omega) (by omega) (by omega) (by omega) (by omega) (by omega) (by omega) (hc.below tR3) lc (hg.below tR3) lg Hgo).mono ?_
                rintro e w3 ⟨rfl, b3⟩
                have cK4 := cK3.below b3
                have cS4 := cS3.below b3
                have bR4 := bR3.trans (b3.mono (by have := bR3.size; omega))
                have n30 := below_cell b3 m30
                have n31 := below_cell b3 m31
                have n32 := below_cell b3 m32
                have g32 := cK4.frozen 2
                have l4 := cK4.lt
                have r30 := below_cell b3 p30
                have r31 := below_cell b3 p31
                have r32 := below_cell b3 p32
                have r33 := below_cell b3 p33
                have lb4 := Nat.lt_of_lt_of_le lb3 b3.size
                clear p30 p31 p32 p33 m30 m31 m32 f32
                go_wp2_with fail
                go_at_call 23
                refine (in_eq x 0 ((codes.length : Int) - 1) false hin _).mono ?_
                rintro e _ ⟨rfl, rfl⟩
                have cK5 := cK4.set 2 (.int .i64 ((k3 : Int) + 1))
                have cS5 := cS4.other (show gz ≠ gk from ne1) 2 (.int .i64 ((k3 : Int) + 1))
                have bR5 := bR4.setCell (p := ⟨gk, 2, none⟩) (show gz ≤ gk from hzk) (.int .i64 ((k3 : Int) + 1))
                go_wp2_with fail
                go_roundw
                case rel => exact ⟨k3 + 1, by omega, by rw [HN2.out]; simp, by exact_mod_cast cK5, cS5, bR5⟩
                case measure => rw [Hme3.out]; have h := cK5.cell 2; simp [keyCells] at h; rw [cellInt_of h]; omega
            · have hk3S : k3 = S := by omega
              have d3 : decide ((k3 : Int) < s) = false := by rw [decide_eq_false_iff_not]; omega
              have hN2 : out3 s codes gs k1 ++ mid3 s ((k1 : Int) + 1) codes gs (k2 + 1) = D := by rw [mid3_succ, ← List.append_assoc, ← HD.out, HSn.out, hk3S]
              have HN2 := Lib.hid hN2
              clear hN2
              have cK5 := cK3.set 1 (.int .i64 ((k2 : Int) + 1))
              have cS5 := cS3.other (show gz ≠ gk from ne1) 1 (.int .i64 ((k2 : Int) + 1))
              have bR5 := bR3.setCell (p := ⟨gk, 1, none⟩) (show gz ≤ gk from hzk) (.int .i64 ((k2 : Int) + 1))
              have f31 := cK3.frozen 1
              clear hk3S
              go_wp2_with fail
              go_roundw
              case rel => exact ⟨k2 + 1, k3, by omega, by rw [HN2.out], by exact_mod_cast cK5, by exact cS5, bR5⟩
              case measure => rw [Hme2.out]; have h := cK5.cell 1; simp [keyCells] at h; rw [cellInt_of h]; omega
        · have hk2S : k2 = S := by omega
          have d2 : decide ((k2 : Int) < s) = false := by rw [decide_eq_false_iff_not]; omega
          have hN2 : out3 s codes gs (k1 + 1) = out3 s codes gs k1 ++ mid3 s ((k1 : Int) + 1) codes gs k2 := by rw [out3_succ, HSn.out, hk2S]
          have hDl : (out3 s codes gs k1 ++ mid3 s ((k1 : Int) + 1) codes gs k2).length ≤ 1000000 := by rw [List.length_append]; omega
          obtain ⟨D, hD⟩ : ∃ D, out3 s codes gs k1 ++ mid3 s ((k1 : Int) + 1) codes gs k2 = D := ⟨_, rfl⟩
          rw [hD] at hN2 hDl ⊢
          have HN2 := Lib.hid hN2
          have cK5 := cK2.set 0 (.int .i64 ((k1 : Int) + 1 + 1))
          have cS5 := cS2.other (show gz ≠ gk from ne1) 0 (.int .i64 ((k1 : Int) + 1 + 1))
          have bR5 := bR2.setCell (p := ⟨gk, 0, none⟩) (show gz ≤ gk from hzk) (.int .i64 ((k1 : Int) + 1 + 1))
          clear hk2S hN2 hD
          go_wp2_with fail
          go_roundw
          case rel => exact ⟨k1 + 1, k2, T2, by omega, by rw [HN2.out], by exact_mod_cast cK5, by exact cS5, bR5⟩
          case measure => rw [Hme1.out]; have h := cK5.cell 0; simp [keyCells] at h; rw [cellInt_of h]; omega
    · have hk1S : k1 + 1 = S := by omega
      have d1 : decide (((k1 : Int) + 1) < s) = false := by rw [decide_eq_false_iff_not]; omega
      have hN2 : refKeys s codes gs = out3 s codes gs k1 := by unfold refKeys; rw [show (s - 1).toNat = k1 by omega]
      obtain ⟨D, hD⟩ : ∃ D, out3 s codes gs k1 = D := ⟨_, rfl⟩
      rw [hD] at hN2 o1 ⊢
      have HN2 := Lib.hid hN2
      have tR1 : Below w.heap.size w wr := t0'.trans (bR1.mono hwz)
      obtain ⟨w9, hw9⟩ : ∃ z : World, z = wr := ⟨_, rfl⟩
      subst hw9
      have hP41 : possK s 0 0 [] 41 = L := by rw [← HL.out]; simp [possK, seenB]
      have HP41 := Lib.hid hP41
      have HNN : Hid ((D.length : Int) = N) := Lib.hid (by rw [← HN.out, HN2.out])
      clear hk1S hN2 hD hP41
      go_wp2_with fail
      go_loopw [13, 14] (fun v i wq => ∃ (k : Nat) (a' : Option Addr) (c' : Nat), k ≤ 41 ∧ i = .int .i64 k ∧ v = .slice a' (possK s 0 0 [] k).length c' ∧ OwnL 3 1 w9.heap.size wq a' c' (possK s 0 0 [] k).length ((possK s 0 0 [] k).map (Value.int .i64)) ∧ Below w9.heap.size w9 wq) (fun _ i _ => 41 - (intOf i).toNat)
      case atStart => exact ⟨0, none, 0, Nat.zero_le _, rfl, rfl, OwnL.nil _ _ _ _, Below.refl _ _⟩
      case round =>
        obtain ⟨k, a', c', hk41, rfl, rfl, own, bQ⟩ := hrel
        have hsn := possK_succ s 0 0 [] k
        have hpl := possK_len s 0 0 [] k
        obtain ⟨PL, hPL⟩ : ∃ PL, possK s 0 0 [] k = PL := ⟨_, rfl⟩
        rw [hPL] at hsn hpl own ⊢
        by_cases hlt : k < 41
        · have c1 := (cS1.below bQ).cell k
          rw [seenG_get hlt] at c1
          have l1 := (cS1.below bQ).lt
          have hki : (k : Int) < 41 := by omega
          have Hsn := Lib.hid hsn
          have HPL := Lib.hid hPL
          clear hsn hPL
          cases hb : seenB s 0 0 [] k
          · rw [hb] at c1
            have Hb := Lib.hid hb
            clear hb
            go_wp2
            go_roundw
            case rel => exact ⟨k + 1, a', c', by omega, by go_num, by rw [Hsn.out, Hb.out]; simp, by rw [Hsn.out, Hb.out]; simpa using own, bQ⟩
            case measure => simp [intOf]; omega
          · rw [hb] at c1
            have Hb := Lib.hid hb
            clear hb
            go_wp2_with (at_builtin; refine wpList_app_lit elInt rfl _ _ rfl w9.heap.size _ PL.length c' _ rfl own 1 1 rfl rfl (fun u hu => ?c1) ?c2 ?c3 ?c4 ?_)
            case c1 => simp at hu; subst hu; rfl
            case c2 => unfold maxLen; omega
            case c3 => omega
            case c4 => exact bQ.size
            intro a6 c6 w6 o6 b6
            go_wp2
            go_roundw
            case rel => exact ⟨k + 1, a6, c6, by omega, by go_num, by rw [Hsn.out, Hb.out]; simp, by rw [Hsn.out, Hb.out]; simpa using o6, bQ.trans b6⟩
            case measure => simp [intOf]; omega
        · have hkq : k = 41 := by omega
          have HPL : Hid (L = PL) := Lib.hid (by rw [← hPL, hkq]; exact HP41.out.symm)
          subst hkq
          have iPL := own.ints.1
          clear hsn hPL own
          go_wp2
          go_ret2
          rw [HPL.out, HNN.out]
          exact ⟨⟨a', c', rfl, iPL⟩, tR1.trans (bQ.mono tR1.size)⟩

end Go.Proofs.Ytmplgcefhpobgaa
