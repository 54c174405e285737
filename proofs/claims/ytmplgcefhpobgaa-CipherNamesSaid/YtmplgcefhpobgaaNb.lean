/- CipherNames: the facts at the document's book. -/
import Derived.Test.YtmplgcefhpobgaaNa
namespace Go.Proofs.Ytmplgcefhpobgaa
set_option linter.unusedVariables false
set_option linter.unusedSimpArgs false
set_option linter.unnecessarySimpa false
open Go.RowKit Go.Flow

/-- Blocks known whole. -/
def Fv (w : World) (l : List (Nat × Array Value × TypeId)) : Prop := (∀ x ∈ l, Cells w x.1 x.2.1 x.2.2) ∧ (l.map (·.1)).Nodup
theorem Fv.get {w : World} {l : List (Nat × Array Value × TypeId)} (F : Fv w l) (i : Nat) {x : Nat × Array Value × TypeId} (h : l[i]? = some x) : Cells w x.1 x.2.1 x.2.2 := F.1 x (List.mem_of_getElem? h)
theorem Fv.below {w w' : World} {l : List (Nat × Array Value × TypeId)} (F : Fv w l) (hb : Below w.heap.size w w') : Fv w' l := ⟨fun x hx => (F.1 x hx).below hb, F.2⟩
theorem Fv.set {w : World} {l l' : List (Nat × Array Value × TypeId)} (F : Fv w l) (i k : Nat) (v : Value) {g : Nat} {cs : Array Value} {T : TypeId} (h : l[i]? = some (g, cs, T)) (h' : l.set i (g, cs.setIfInBounds k v, T) = l') : Fv (w.setCell ⟨g, k, none⟩ v) l' := by
  subst h'
  obtain ⟨hi, he⟩ := List.getElem?_eq_some_iff.1 h
  refine ⟨fun x hx => ?_, ?_⟩
  · obtain ⟨j, hj⟩ := List.getElem?_of_mem hx
    rw [List.getElem?_set] at hj
    by_cases hij : i = j
    · subst hij
      simp [hi] at hj
      subst hj
      exact (F.get i h).set k v
    · rw [if_neg hij] at hj
      have hx' := F.get j hj
      refine hx'.other ?_ k v
      intro hg
      have hn := F.2
      obtain ⟨hj', hje⟩ := List.getElem?_eq_some_iff.1 hj
      have hp := List.pairwise_iff_getElem.1 hn
      have hi2 : i < (l.map (·.1)).length := by simpa using hi
      have hj2 : j < (l.map (·.1)).length := by simpa using hj'
      rcases Nat.lt_or_gt_of_ne hij with hl | hl
      · exact hp i j hi2 hj2 hl (by simp [he, hje, hg])
      · exact hp j i hj2 hi2 hl (by simp [he, hje, hg])
  · have : (l.set i (g, cs.setIfInBounds k v, T)).map (·.1) = l.map (·.1) := by
      rw [List.map_set]
      have h2 : (l.map (·.1))[i]? = some g := by simp [h]
      obtain ⟨hi2, he2⟩ := List.getElem?_eq_some_iff.1 h2
      have h3 := List.set_getElem_self hi2
      rw [he2] at h3
      exact h3
    rw [this]; exact F.2
theorem Fv.alloc {w : World} {l l' : List (Nat × Array Value × TypeId)} (F : Fv w l) (cs : Array Value) (T : TypeId) {M : Nat} (hM : M = w.heap.size) (h : l ++ [(M, cs, T)] = l') : Fv (w.alloc (.cells cs T)) l' := by
  subst hM h
  refine ⟨fun x hx => ?_, ?_⟩
  · rcases List.mem_append.1 hx with hx | hx
    · exact (F.1 x hx).below ((Below.refl _ _).alloc (Nat.le_refl _) _)
    · simp at hx; subst hx; exact Cells.new w cs T
  · rw [List.map_append, List.nodup_append]
    refine ⟨F.2, by simp, fun a ha b hb => ?_⟩
    obtain ⟨x, hx, rfl⟩ := List.mem_map.1 ha
    simp at hb
    subst hb
    exact Nat.ne_of_lt (F.1 x hx).lt
/-- Values of a drawn region. -/
def BookX (v : Value) (w : World) : Prop := ∃ g h, v = EXB (some ⟨g, 0, none⟩) 2 (some ⟨h, 0, none⟩) 3 ∧ Recs3At w (some ⟨g, 0, none⟩) exKs ∧ IntsAt w (some ⟨h, 0, none⟩) exDs
theorem BookX.kept {v : Value} {w w' : World} (h : BookX v w) (hb : Below w.heap.size w w') : BookX v w' := let ⟨g, k, e, x, y⟩ := h; ⟨g, k, e, x.below hb, y.below hb⟩
def IntsX (l : List Int) (v : Value) (w : World) : Prop := ∃ a, v = .slice a l.length l.length ∧ IntsAt w a l
theorem IntsX.kept {l : List Int} {v : Value} {w w' : World} (h : IntsX l v w) (hb : Below w.heap.size w w') : IntsX l v w' := let ⟨a, e, x⟩ := h; ⟨a, e, x.below hb⟩
def LossX (l : List (Int × Int)) (v : Value) (w : World) : Prop := ∃ a, v = .slice a l.length l.length ∧ Recs2At w a l
theorem LossX.kept {l : List (Int × Int)} {v : Value} {w w' : World} (h : LossX l v w) (hb : Below w.heap.size w w') : LossX l v w' := let ⟨a, e, x⟩ := h; ⟨a, e, x.below hb⟩
def TupE (E : Int) (v : Value) (w : World) : Prop := ∃ a n c, v = .tuple #[.slice a n c, .int .i64 E]
theorem TupE.kept {E : Int} {v : Value} {w w' : World} (h : TupE E v w) (_ : Below w.heap.size w w') : TupE E v w' := h
def SlE (v : Value) (w : World) : Prop := ∃ a n c, v = .slice a n c
theorem SlE.kept {v : Value} {w w' : World} (h : SlE v w) (_ : Below w.heap.size w w') : SlE v w' := h
def ErrE (E : Int) (v : Value) (w : World) : Prop := v = .int .i64 E
theorem ErrE.kept {E : Int} {v : Value} {w w' : World} (h : ErrE E v w) (_ : Below w.heap.size w w') : ErrE E v w' := h
theorem nf1 : codeOut 13 10 exKs exDs 2 [4] = [1, 7, 2] := by kernel_rfl
theorem nf2 : codeErr 13 10 exKs exDs 2 [4] = 0 := by kernel_rfl
theorem nf3 : planDays 13 10 exKs exDs [(0, 1)] 3 = [1, 1, 1] := by kernel_rfl
theorem nf4 : planCh 13 10 exKs exDs [(0, 1)] 3 = 0 := by kernel_rfl
theorem nf5 : planErr 13 10 exKs exDs [(0, 1)] 3 = 0 := by kernel_rfl
theorem nf6 : possL 13 10 exKs exDs [11, 0, 0] [(0, 4), (2, 4)] 1 = [0, 1, 2, 3, 5, 6, 7, 8, 9, 10, 11, 12] := by kernel_rfl
theorem nf7 : possErr 13 10 exKs exDs [11, 0, 0] [(0, 4), (2, 4)] 1 = 0 := by kernel_rfl
theorem nf8 : possL 13 10 exKs exDs [11, 0, 0] [(0, 4), (2, 4), (1, 11)] 2 = [4] := by kernel_rfl
theorem nf9 : possErr 13 10 exKs exDs [11, 0, 0] [(0, 4), (2, 4), (1, 11)] 2 = 0 := by kernel_rfl
theorem nf10 : provB (fun j => hadN [(0, 1)] j) 2 spot0 [0, 1, 1] 1 = true := by kernel_rfl
theorem nf11 : provB (fun j => hadN [(0, 1)] j) 2 spot0 [0, 1, 1] 0 = false := by kernel_rfl
theorem nf12 : provB (fun j => hadN [(0, 1)] j) 2 spot0 [0, 0, 1] 9 = false := by kernel_rfl
theorem nf13 : decodeErr 13 10 exKs exDs 1 [0, 11, 0, 0, 9] = 8 := by kernel_rfl
theorem nf14 : decodeErr 13 10 exKs exDs 0 [0, 11, 0, 1, 9] = 11 := by kernel_rfl
theorem nf15 : decodeErr 13 10 exKs exDs 0 [0] = 4 := by kernel_rfl
theorem nf16 : codeErr 13 10 exKs exDs 3 [] = 2 := by kernel_rfl
theorem nf17 : codeErr 13 10 exKs exDs 0 [0, 0, 0, 0, 0, 0, 0, 0, 0, 0, 0] = 3 := by kernel_rfl
theorem nf18 : codeErr 13 10 exKs exDs 0 [13] = 2 := by kernel_rfl
theorem nf19 : planErr 13 10 exKs exDs [(0, 1)] 1 = 10 := by kernel_rfl
theorem nf20 : planErr 13 10 exKs exDs [(0, 1)] 9 = 2 := by kernel_rfl
theorem nf21 : lossErr 13 10 exKs exDs [(0, 0), (0, 0), (0, 0), (0, 0), (0, 0), (0, 0), (0, 0)] = 3 := by kernel_rfl
theorem nf22 : fitsErr 13 10 exKs exDs [11, 12] [(0, 4), (0, 5)] = 11 := by kernel_rfl
theorem nf23 : possErr 13 10 exKs exDs [11, 0] [] 2 = 2 := by kernel_rfl
theorem nf24 : bookErr 15 10 exKs exDs = 1 := by kernel_rfl
theorem nf25 : bookErr 13 14 exKs exDs = 1 := by kernel_rfl
theorem nf26 : bookErr 13 10 [(0, 3, 1), (5, 0, 0)] exDs = 1 := by kernel_rfl
theorem nf27 : bookErr 13 10 [(0, 0, 0), (0, 0, 0), (0, 0, 0), (0, 0, 0), (0, 0, 0), (0, 0, 0)] exDs = 3 := by kernel_rfl
theorem nf28 : bookErr 13 10 exKs [2, 0, 1] = 1 := by kernel_rfl
theorem nf29 : bookErr 0 0 [] [] = 1 := by kernel_rfl
theorem nf30 : fitsN 13 10 exKs exDs [11, 12] [(0, 4), (0, 5)] = 0 := by kernel_rfl
theorem nf31 : codeOut 13 10 exKs exDs 3 [] = [] := by kernel_rfl
theorem nf32 : codeOut 13 10 exKs exDs 0 [0, 0, 0, 0, 0, 0, 0, 0, 0, 0, 0] = [] := by kernel_rfl
theorem nf33 : codeOut 13 10 exKs exDs 0 [13] = [] := by kernel_rfl
theorem nf34 : planDays 13 10 exKs exDs [(0, 1)] 1 = [] := by kernel_rfl
theorem nf35 : planDays 13 10 exKs exDs [(0, 1)] 9 = [] := by kernel_rfl
theorem nf36 : planCh 13 10 exKs exDs [(0, 1)] 1 = 0 := by kernel_rfl
theorem nf37 : planCh 13 10 exKs exDs [(0, 1)] 9 = 0 := by kernel_rfl
theorem nf38 : possL 13 10 exKs exDs [11, 0] [] 2 = [] := by kernel_rfl
theorem nf39 : madeCells (Value.int .i64 0).cells 11 = #[.int .i64 0, .int .i64 0, .int .i64 0, .int .i64 0, .int .i64 0, .int .i64 0, .int .i64 0, .int .i64 0, .int .i64 0, .int .i64 0, .int .i64 0] := by kernel_rfl
theorem nf40 : madeCells (Value.agg #[.int .i64 0, .int .i64 0, .int .i64 0]).cells (6 * 3) = #[.int .i64 0, .int .i64 0, .int .i64 0, .int .i64 0, .int .i64 0, .int .i64 0, .int .i64 0, .int .i64 0, .int .i64 0, .int .i64 0, .int .i64 0, .int .i64 0, .int .i64 0, .int .i64 0, .int .i64 0, .int .i64 0, .int .i64 0, .int .i64 0] := by kernel_rfl
theorem nf41 : madeCells (Value.agg #[.int .i64 0, .int .i64 0]).cells (7 * 2) = #[.int .i64 0, .int .i64 0, .int .i64 0, .int .i64 0, .int .i64 0, .int .i64 0, .int .i64 0, .int .i64 0, .int .i64 0, .int .i64 0, .int .i64 0, .int .i64 0, .int .i64 0, .int .i64 0] := by kernel_rfl
end Go.Proofs.Ytmplgcefhpobgaa
