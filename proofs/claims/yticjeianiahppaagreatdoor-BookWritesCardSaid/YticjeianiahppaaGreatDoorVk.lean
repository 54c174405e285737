/- book, laws: bytes as an argument -/
import Derived.Test.YticjeianiahppaaGreatDoorVl
import Derived.Test.YticjeianiahppaaGreatDoorBZ
import Derived.OpenShut
namespace Go.Proofs.YticjeianiahppaaGreatDoor
set_option linter.unusedVariables false
set_option linter.unusedSimpArgs false
set_option linter.unnecessarySimpa false
open Go.RowKit Go.Flow
open Go.ChangeShapes Go.WideShapes Go.ChangeAt
section
variable {H : Type} {enc : TypeId × Value → H} {w : World} {base : Nat} {spare : Nat → Bool} {held : Bool}
set_option maxRecDepth 100000 in
theorem open_bytes {r : Reach} {b0 : Nat} {v : Value} {d : DataW H} {p : List MemPlace} (hv : Value.okWide Tryz.prog w r b0 128 v) (h : DataW.Trod enc Tryz.prog w base spare held 128 v d p) :
    ∃ (a : Option Addr) (L : List UInt8) (c : Nat), v = .slice a L.length c ∧ SrcAt w a (zDB L) ∧ (a = none → c = 0) ∧ L.length ≤ 9223372036854775807 ∧ L.length ≤ c := by
  obtain ⟨a0, len0, cap0, rfl⟩ := okWide_slice Tryz.underlying128 hv
  obtain ⟨fuel, hf⟩ := h
  rcases open_ints Tryz.underlying128 Tryz.underlying5 (by kernel_rfl) hf with ⟨hcs, _⟩ | ⟨x, len, cap, zs, hcs, _, hl, hm, hz, _, hcell, hwz⟩
  · simp [Value.cells] at hcs
    obtain ⟨rfl, rfl, rfl⟩ := hcs
    exact ⟨none, [], 0, rfl, fun j u hu => by simp [zDB] at hu, fun _ => rfl, by simp, by simp⟩
  · simp [Value.cells] at hcs
    obtain ⟨rfl, rfl, rfl⟩ := hcs
    have hzl : len0 ≤ zs.length := by rw [hz]; split <;> omega
    have hL : ((zs.take len0).map fun z => UInt8.ofNat z.toNat).length = len0 := by rw [List.length_map, List.length_take]; omega
    refine ⟨some x, (zs.take len0).map fun z => UInt8.ofNat z.toNat, cap0, by rw [hL], fun j u hu => ?_, (fun h => by cases h), by rw [hL]; unfold maxLen at hm; omega, by rw [hL]; exact hl⟩
    have hj : j < len0 := by
      have := (List.getElem?_eq_some_iff.1 hu).1
      rwa [zLD, hL] at this
    obtain ⟨b, off, rfl, hb⟩ := addr_plain (hcell 0 (by omega))
    have hcl := hcell j (by omega)
    rw [addr_add] at hcl
    refine ⟨b, off, rfl, ?_⟩
    have hget : zs.getD j 0 = zs[j]'(by omega) := by simp [List.getD_eq_getElem?_getD, List.getElem?_eq_getElem (show j < zs.length by omega)]
    have hw := hwz _ (List.getElem_mem (show j < zs.length by omega))
    rw [hcl, hget]
    have hu2 : u = .int .u8 (((UInt8.ofNat (zs[j]'(by omega)).toNat).toNat : Nat) : Int) := by
      have h1 : (zDB ((zs.take len0).map fun z => UInt8.ofNat z.toNat))[j]? = some (.int .u8 (((UInt8.ofNat (zs[j]'(by omega)).toNat).toNat : Nat) : Int)) := by
        unfold zDB
        rw [List.map_map, List.getElem?_map, List.getElem?_take_of_lt hj, List.getElem?_eq_getElem (show j < zs.length by omega)]
        rfl
      rw [h1] at hu
      exact (Option.some.inj hu).symm
    rw [hu2]
    generalize zs[j]'(by omega) = z at hw ⊢
    simp [Lit.wf, IntKind.min, IntKind.max, IntKind.bits, IntKind.signed] at hw
    have : (UInt8.ofNat z.toNat).toNat = z.toNat := by rw [UInt8.toNat_ofNat']; omega
    rw [this]
    congr 2
    omega
end
end Go.Proofs.YticjeianiahppaaGreatDoor
