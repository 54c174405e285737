/- copies: work -/
import Derived.Test.YtfclemnkcpadpaaKk
namespace Go.Proofs.Ytfclemnkcpadpaa
set_option linter.unusedVariables false
set_option linter.unusedSimpArgs false
set_option linter.unnecessarySimpa false
open Go.RowKit Go.Flow Go.Shelf
attribute [local go_sem] Oper.semAt_some

def Sl : Act → List (Nat × Value) → Prop
  | a, [] => a.tmps.size = 89
  | a, (i, v) :: S => a.tmps.getD i undef = v ∧ Sl a S
theorem Sl.size : ∀ {a : Act} {S : List (Nat × Value)}, Sl a S → a.tmps.size = 89
  | _, [], h => h
  | _, _ :: _, h => Sl.size h.2
def hrF (p : Post) (i k : Nat) : Hrs := routeHr (((p.routes[k]?).map (·.legs)).getD []) (p.sends.getD i 0)
def domF (R i k : Nat) (i' k' : Nat) : Prop := (i' < i ∧ k' < R) ∨ (i' = i ∧ k' < k)
theorem HoursAt.noDefer {w : World} {bm n : Nat} {F : Nat → Nat → Hrs} {dom : Nat → Nat → Prop} (h : HoursAt w bm n F dom) : ∀ ds, w.heap[bm]? ≠ some (Obj.deferred ds) := by
  obtain ⟨D, ⟨es, clock, hb, _⟩, _⟩ := h
  intro ds e
  rw [hb] at e
  cases e
/-- What holds between two rounds of the outer loops. -/
structure WorkI (p : Post) (a : Option Addr) (c : Nat) (ar : Option Addr) (cr : Nat) (w : World) (i k : Nat) (W : World) : Prop where
  b : Below w.heap.size w W
  cp : Cells W w.heap.size #[.slice a p.sends.length c, .slice ar p.routes.length cr, .int .i64 p.pat] 34
  cw : Cells W (w.heap.size + 2) #[.slice a p.sends.length c, .slice ar p.routes.length cr, .int .i64 p.pat, .map (some (w.heap.size + 1))] 124
  h : ∃ n, n ≤ 3 * i + k ∧ HoursAt W (w.heap.size + 1) n (hrF p) (domF p.routes.length i k)
theorem WorkI.below {p : Post} {a : Option Addr} {c : Nat} {ar : Option Addr} {cr : Nat} {w : World} {i k : Nat} {W W' : World} (h : WorkI p a c ar cr w i k W) (hb : Below W.heap.size W W') : WorkI p a c ar cr w i k W' :=
  ⟨h.b.trans (hb.mono h.b.size), h.cp.below hb, h.cw.below hb, let ⟨n, hn, hh⟩ := h.h; ⟨n, hn, hh.below hb⟩⟩
def SO (a : Option Addr) (c n : Nat) (w : World) (i : Nat) : List (Nat × Value) := [(1, .pointer (some ⟨w.heap.size, 0, none⟩)), (3, .pointer (some ⟨w.heap.size + 2, 0, none⟩)), (19, .slice a n c), (20, .int .i64 n), (21, .int .i64 i)]
def SendsI (p : Post) (a : Option Addr) (c : Nat) (ar : Option Addr) (cr : Nat) (w : World) (g : Nat) (A : Act) (W : World) : Prop :=
  ∃ i, g + i = p.sends.length ∧ Sl A (SO a c p.sends.length w i) ∧ Marks w.heap.size A.defers W ∧ WorkI p a c ar cr w i 0 W
def SR (a : Option Addr) (c n : Nat) (ar : Option Addr) (cr R : Nat) (w : World) (i : Nat) (s : Int) (k : Nat) : List (Nat × Value) := SO a c n w i ++ [(4, .int .i64 i), (5, .int .i64 s), (27, .slice ar R cr), (28, .int .i64 R), (29, .int .i64 k)]
def RoutesI (p : Post) (a : Option Addr) (c : Nat) (ar : Option Addr) (cr : Nat) (w : World) (i : Nat) (s : Int) (g : Nat) (A : Act) (W : World) : Prop :=
  ∃ k, g + k = p.routes.length ∧ Sl A (SR a c p.sends.length ar cr p.routes.length w i s k) ∧ Marks w.heap.size A.defers W ∧ WorkI p a c ar cr w i k W
def SL (a : Option Addr) (c n : Nat) (ar : Option Addr) (cr R : Nat) (w : World) (i : Nat) (s : Int) (k : Nat) (al : Option Addr) (ca L : Nat) (S j : Nat) : List (Nat × Value) :=
  SR a c n ar cr R w i s k ++ [(6, .int .i64 k), (8, .pointer (some ⟨S, 0, none⟩)), (41, .slice al L ca), (42, .int .i64 L), (43, .int .i64 j)]
def legsHr (ls : List Leg) (s : Int) (j : Nat) : Hrs := (ls.take j).foldl (fun S l => legHr l S) (oneHr s)
def LegsI (p : Post) (a : Option Addr) (c : Nat) (ar : Option Addr) (cr : Nat) (w : World) (i : Nat) (s : Int) (k : Nat) (al : Option Addr) (ca : Nat) (ls : List Leg) (g : Nat) (A : Act) (W : World) : Prop :=
  ∃ j S, g + j = ls.length ∧ Sl A (SL a c p.sends.length ar cr p.routes.length w i s k al ca ls.length S j) ∧ Marks w.heap.size A.defers W ∧ WorkI p a c ar cr w i k W ∧ LegsAt W al ls ∧ Cells W S (setArr (legsHr ls s j)) 154 ∧ w.heap.size ≤ S

/-- What has come of a leg: the hours of pre, and of one more the first q numbers. -/
def accHr (l : Leg) (pre : List Nat) : Hrs := fun m => pre.any fun h => (List.range (l.hi - l.lo + 1).toNat).any fun n => decide (awk l (h + l.lo + n) = m)
def accN (l : Leg) (pre : List Nat) (h q : Nat) : Hrs := fun m => accHr l pre m || (List.range q).any fun n => decide (awk l (h + l.lo + n) = m)
theorem accHr_nil (l : Leg) : accHr l [] = noHr := rfl
theorem accN_zero (l : Leg) (pre : List Nat) (h : Nat) : accN l pre h 0 = accHr l pre := by funext m; simp [accN]
theorem accN_all (l : Leg) (pre : List Nat) (h : Nat) : accN l pre h (l.hi - l.lo + 1).toNat = accHr l (pre ++ [h]) := by funext m; simp [accN, accHr]
theorem accN_succ (l : Leg) (pre : List Nat) (h q v : Nat) (hv : awk l (h + l.lo + q) = v) : accN l pre h (q + 1) = fun m => accN l pre h q m || m == v := by
  funext m
  unfold accN
  rw [List.range_succ, List.any_append, ← Bool.or_assoc]
  congr 1
  simp only [List.any_cons, List.any_nil, Bool.or_false]
  rw [hv, Bool.eq_iff_iff]
  simp only [decide_eq_true_eq, beq_iff_eq]
  omega
theorem accHr_full (l : Leg) (f : Hrs) : accHr l ((hvs f 101 (Nat.le_refl _)).map (·.1)) = legHr l f := by
  funext m
  rw [hvs_map]
  unfold accHr legHr
  rw [List.any_filter]
structure Same6 (N bm : Nat) (A B : World) : Prop where
  b : Below bm A B
  s : ∀ q, q < N → q ≠ bm → B.heap[q]? = A.heap[q]?
theorem Same6.cells {N bm : Nat} {A B : World} (h : Same6 N bm A B) {q : Nat} {cs : Array Value} {T : TypeId} (hc : Cells A q cs T) (hq : q < N) (hn : q ≠ bm) : Cells B q cs T := (h.s q hq hn).trans hc
theorem KeepsOthers.of_below {W W' : World} (h : Below W.heap.size W W') : KeepsOthers W W' :=
  ⟨h.size, fun k o hk _ => (h.block k (Array.getElem?_eq_some_iff.1 hk).1).trans hk⟩
theorem each_new (Sb : Nat) (w : World) : Calls Try.prog 100 #[.pointer (some ⟨Sb, 0, none⟩)] w fun e w' => e = .returned (.func (.func 119) #[] #[.pointer (some ⟨w.heap.size, 0, none⟩)]) ∧ w.alloc (.cells #[.pointer (some ⟨Sb, 0, none⟩)] 121) = w' := by
  go_enter Try.func100, Try.ntmps100
  go_wp2
  go_ret
  exact ⟨rfl, rfl⟩
theorem legs_le {ls : List Leg} (h : ls.all legOk = true) (h3 : ls.length ≤ 3) {s : Int} (hs : 0 ≤ s ∧ s ≤ 30) (j : Nat) : HrsLe (legsHr ls s j) 48 := by
  have h1 : (ls.take j).all legOk = true := List.all_eq_true.2 fun l hl => List.all_eq_true.1 h l (List.mem_of_mem_take hl)
  have h2 : (ls.take j).length ≤ 3 := by rw [List.length_take]; omega
  have := (routeHr_go (ls.take j) (oneHr s) 30 h1 (fun n hn => by simp [oneHr] at hn; omega) (by omega) (by omega) ⟨s.toNat, by simp [oneHr]; omega⟩).1
  intro n hn
  have := this n hn
  omega
/-- A post at work. -/
def WorkAt (p : Post) (a : Option Addr) (c : Nat) (ar : Option Addr) (cr : Nat) (Bw : Nat) (W : World) : Prop :=
  ∃ Bm n, Cells W Bw #[.slice a p.sends.length c, .slice ar p.routes.length cr, .int .i64 p.pat, .map (some Bm)] 124 ∧ HoursAt W Bm n (hrF p) (fun i k => i < p.sends.length ∧ k < p.routes.length)
def WorkRet (p : Post) (a : Option Addr) (c : Nat) (ar : Option Addr) (cr : Nat) (w : World) (e : Ending) (w' : World) : Prop :=
  ∃ Bw, e = .returned (.pointer (some ⟨Bw, 0, none⟩)) ∧ w.heap.size ≤ Bw ∧ WorkAt p a c ar cr Bw w' ∧ Below w.heap.size w w'

set_option maxRecDepth 100000 in
set_option maxHeartbeats 16000000 in
theorem work_any (a : Option Addr) (c : Nat) (ar : Option Addr) (cr : Nat) (p : Post) (w : World) (hs : IntsAt w a p.sends) (hr : RoutesAt w ar p.routes) (h0 : postErr p = 0) :
    Calls Try.prog 70 #[.agg #[.slice a p.sends.length c, .slice ar p.routes.length cr, .int .i64 p.pat]] w (WorkRet p a c ar cr w) := by
  obtain ⟨n4, r3, few, _, _, _, _, _, rok⟩ := postErr_ok h0
  have hours := post_hours h0
  have legs := post_legs h0
  clear h0
  have Few := Lib.hid few
  have Rok := Lib.hid rok
  clear few rok
  have mk : ∀ W, Sem.run Try.prog (Instr.makeMap 122 none) W = .ok (.map (some W.heap.size)) (W.alloc (.map #[] 0)) := fun W => by kernel_rfl
  have b0 : Below w.heap.size w (w.alloc (.cells #[.slice a p.sends.length c, .slice ar p.routes.length cr, .int .i64 p.pat] 34)) := (Below.refl _ _).alloc (Nat.le_refl _) _
  have W0 : WorkI p a c ar cr w 0 0 (((w.alloc (.cells #[.slice a p.sends.length c, .slice ar p.routes.length cr, .int .i64 p.pat] 34)).alloc (.map #[] 0)).alloc (.cells #[.slice a p.sends.length c, .slice ar p.routes.length cr, .int .i64 p.pat, .map (some (w.heap.size + 1))] 124)) := by
    refine ⟨(b0.alloc b0.size _).alloc (by simp; omega) _, ((Cells.new _ _ _).alloc _).alloc _, Cells.new' _ _ _ _ (by simp), 0, Nat.zero_le _, ?_⟩
    have := HoursAt.made (w.alloc (.cells #[.slice a p.sends.length c, .slice ar p.routes.length cr, .int .i64 p.pat] 34)) (hrF p)
    rw [show (w.alloc (.cells #[.slice a p.sends.length c, .slice ar p.routes.length cr, .int .i64 p.pat] 34)).heap.size = w.heap.size + 1 by simp] at this
    exact (this.sub (fun i k h => by unfold domF at h; omega)).below ((Below.refl _ _).alloc (Nat.le_refl _) _)
  refine (callsIn_wide (n := 5)).1 ?_
  refine callsIn_of_wp_marks Try.func70 rfl trivial ?_ rfl
  simp only [Try.ntmps70, List.size_toArray, List.length_cons, List.length_nil, Nat.reduceAdd, Nat.reduceSub, Array.replicate_succ, Array.replicate_zero, List.push_toArray, List.append_toArray, List.nil_append, List.cons_append]
  refine wpIn_wide.2 ?_
  go_wp2
  refine wp_loop_ghost_k (SendsI p a c ar cr w) p.sends.length ?_ ?_
  · exact ⟨0, rfl, ⟨rfl, rfl, rfl, rfl, rfl, rfl⟩, Marks.nil _ _, W0⟩
  clear W0 b0 mk
  rintro g A W ⟨i, hgi, hS, hM, hW⟩ J K hJ hK
  have hsz := hS.size
  revert hS hM
  refine act_elim (fun A => Sl A (SO a c p.sends.length w i) → Marks w.heap.size A.defers W → Code.wp _ _ _ A W) hsz ?_
  clear hsz
  intro ds x0 x1 x2 x3 x4 x5 x6 x7 x8 x9 x10 x11 x12 x13 x14 x15 x16 x17 x18 x19 x20 x21 x22 x23 x24 x25 x26 x27 x28 x29 x30 x31 x32 x33 x34 x35 x36 x37 x38 x39 x40 x41 x42 x43 x44 x45 x46 x47 x48 x49 x50 x51 x52 x53 x54 x55 x56 x57 x58 x59 x60 x61 x62 x63 x64 x65 x66 x67 x68 x69 x70 x71 x72 x73 x74 x75 x76 x77 x78 x79 x80 x81 x82 x83 x84 x85 x86 x87 x88 hS hM
  simp only [SL, SR, SO, List.cons_append, List.nil_append, Sl, Array.getD_eq_getD_getElem?, List.getElem?_toArray, List.getElem?_cons_zero, List.getElem?_cons_succ, Option.getD_some] at hS
  obtain ⟨rfl, rfl, rfl, rfl, rfl, -⟩ := hS
  have q1 := hW.cp.cell 1
  have lP := hW.cp.lt
  simp at q1
  by_cases hi : i < p.sends.length
  · obtain ⟨bs, offs, rfl, hbs, s0⟩ := (hs.below hW.b) i hi
    have sb := hours.s _ (List.getElem_mem hi)
    have s0' : W.cell? ⟨bs, offs + i, none⟩ = some (.int .i64 p.sends[i]) := s0.trans (by simp [hi])
    have Hsg : Hid (p.sends.getD i 0 = p.sends[i]) := Lib.hid (by simp [hi])
    clear s0
    obtain ⟨s, hse⟩ : ∃ s : Nat, p.sends[i] = (s : Int) := ⟨p.sends[i].toNat, by omega⟩
    rw [hse] at s0' sb Hsg
    clear hse
    go_wp2
    refine wp_loop_ghost_k (RoutesI p (some ⟨bs, offs, none⟩) c ar cr w i s) p.routes.length ?_ ?_
    · exact ⟨0, rfl, ⟨rfl, rfl, rfl, rfl, rfl, rfl, rfl, rfl, rfl, rfl, rfl⟩, hM, hW⟩
    clear s0' q1 hM hW lP hbs
    clear W ds
    rintro g2 A W ⟨k, hgk, hS, hM, hW⟩ J2 K2 hJ2 hK2
    have hsz := hS.size
    revert hS hM
    refine act_elim (fun A => Sl A (SR (some ⟨bs, offs, none⟩) c p.sends.length ar cr p.routes.length w i s k) → Marks w.heap.size A.defers W → Code.wp _ _ _ A W) hsz ?_
    clear hsz
    intro ds x0 x1 x2 x3 x4 x5 x6 x7 x8 x9 x10 x11 x12 x13 x14 x15 x16 x17 x18 x19 x20 x21 x22 x23 x24 x25 x26 x27 x28 x29 x30 x31 x32 x33 x34 x35 x36 x37 x38 x39 x40 x41 x42 x43 x44 x45 x46 x47 x48 x49 x50 x51 x52 x53 x54 x55 x56 x57 x58 x59 x60 x61 x62 x63 x64 x65 x66 x67 x68 x69 x70 x71 x72 x73 x74 x75 x76 x77 x78 x79 x80 x81 x82 x83 x84 x85 x86 x87 x88 hS hM
    simp only [SL, SR, SO, List.cons_append, List.nil_append, Sl, Array.getD_eq_getD_getElem?, List.getElem?_toArray, List.getElem?_cons_zero, List.getElem?_cons_succ, Option.getD_some] at hS
    obtain ⟨rfl, rfl, rfl, rfl, rfl, rfl, rfl, rfl, rfl, rfl, -⟩ := hS
    by_cases hk : k < p.routes.length
    · obtain ⟨b4, off4, al, ca, rfl, hbl4, e0, e1, eL⟩ := (hr.below hW.b) k hk
      have lo := legs p.routes[k] (List.getElem_mem hk)
      have f1 := List.all_eq_true.1 Few.out _ (List.getElem_mem hk)
      have f2 := List.all_eq_true.1 Rok.out _ (List.getElem_mem hk)
      have Hrk : Hid (p.routes[k]? = some p.routes[k]) := Lib.hid (List.getElem?_eq_getElem hk)
      obtain ⟨r, hrr⟩ : ∃ x, p.routes[k] = x := ⟨_, rfl⟩
      rw [hrr] at e0 e1 eL lo f1 f2 Hrk
      have Hf1 := Lib.hid f1
      have Hf2 := Lib.hid f2
      have Hlo := Lib.hid lo
      have ll3 := lo.1
      clear hrr f1 f2 lo
      have hkI : (k : Int) < (p.routes.length : Int) := by omega
      have zs : Try.zeroCells154 = setArr noHr := by kernel_rfl
      have g0 : (Try.zeroCells154)[s]? = some (.bool false) := by rw [zs]; exact setArr_get noHr s (by omega)
      have Hzs := Lib.hid zs
      clear zs
      have hsI : (s : Int) < 101 := by omega
      have Hz2 : Hid ((Try.zeroCells154).setIfInBounds s (.bool true) = setArr (legsHr r.legs s 0)) := Lib.hid (by
        rw [Hzs.out, setArr_set]
        congr 1
        funext n
        simp only [legsHr, List.take_zero, List.foldl_nil, noHr, Bool.false_or, oneHr]
        rw [Bool.eq_iff_iff]
        simp only [beq_iff_eq, decide_eq_true_eq]
        omega)
      go_wp2
      rw [Hz2.out]
      obtain ⟨W5, hW5⟩ : ∃ z : World, z = ((W.alloc (.cells #[.slice al r.legs.length ca, .bool r.lossy] 108)).alloc (.cells (setArr (legsHr r.legs s 0)) 154)) := ⟨_, rfl⟩
      have b5 : Below W.heap.size W W5 := by rw [hW5]; exact ((Below.refl _ _).alloc (Nat.le_refl _) _).alloc (by simp) _
      have c5 : Cells W5 (W.heap.size + 1) (setArr (legsHr r.legs s 0)) 154 := by rw [hW5]; exact Cells.new' _ _ _ _ (by simp)
      have z5 := hW.b.size
      rw [← hW5]
      clear hW5
      refine wp_loop_ghost_k (LegsI p (some ⟨bs, offs, none⟩) c (some ⟨b4, off4, none⟩) cr w i s k al ca r.legs) r.legs.length ?_ ?_
      · exact ⟨0, W.heap.size + 1, rfl, ⟨rfl, rfl, rfl, rfl, rfl, rfl, rfl, rfl, rfl, rfl, rfl, rfl, rfl, rfl, rfl, rfl⟩, hM.below b5, hW.below b5, eL.below b5, c5, by omega⟩
      clear c5 b5 z5 W5 hM hW e0 e1 eL Hz2 g0 Hzs hbl4
      clear W ds
      rintro g3 A W ⟨j, S, hgj, hS, hM, hW, eL, cS, hSw⟩ J3 K3 hJ3 hK3
      have hsz := hS.size
      revert hS hM
      refine act_elim (fun A => Sl A (SL (some ⟨bs, offs, none⟩) c p.sends.length (some ⟨b4, off4, none⟩) cr p.routes.length w i s k al ca r.legs.length S j) → Marks w.heap.size A.defers W → Code.wp _ _ _ A W) hsz ?_
      clear hsz
      intro ds x0 x1 x2 x3 x4 x5 x6 x7 x8 x9 x10 x11 x12 x13 x14 x15 x16 x17 x18 x19 x20 x21 x22 x23 x24 x25 x26 x27 x28 x29 x30 x31 x32 x33 x34 x35 x36 x37 x38 x39 x40 x41 x42 x43 x44 x45 x46 x47 x48 x49 x50 x51 x52 x53 x54 x55 x56 x57 x58 x59 x60 x61 x62 x63 x64 x65 x66 x67 x68 x69 x70 x71 x72 x73 x74 x75 x76 x77 x78 x79 x80 x81 x82 x83 x84 x85 x86 x87 x88 hS hM
      simp only [SL, SR, SO, List.cons_append, List.nil_append, Sl, Array.getD_eq_getD_getElem?, List.getElem?_toArray, List.getElem?_cons_zero, List.getElem?_cons_succ, Option.getD_some] at hS
      obtain ⟨rfl, rfl, rfl, rfl, rfl, rfl, rfl, rfl, rfl, rfl, rfl, rfl, rfl, rfl, rfl, -⟩ := hS
      by_cases hj : j < r.legs.length
      · obtain ⟨b6, off6, ar6, c6, rfl, hbl6, k0, k1, k2, hR6⟩ := eL j hj
        have ltk : legsHr r.legs s (j + 1) = legHr r.legs[j] (legsHr r.legs s j) := by
          unfold legsHr
          rw [List.take_succ_eq_append_getElem hj, List.foldl_append]; rfl
        have hro := Hf2.out
        simp only [routeOk, Bool.and_eq_true] at hro
        have lok := List.all_eq_true.1 hro.2 _ (List.getElem_mem hj)
        have las := Hlo.out.2.2 _ (List.getElem_mem hj)
        have Hle := Lib.hid (legs_le hro.2 ll3 (s := s) (by omega) j)
        obtain ⟨l, hl⟩ : ∃ l, r.legs[j] = l := ⟨_, rfl⟩
        rw [hl] at k0 k1 k2 hR6 ltk lok las
        have Hlt := Lib.hid ltk
        have Hlok := Lib.hid lok
        clear ltk hro lok hl
        obtain ⟨f, hf⟩ : ∃ f, legsHr r.legs s j = f := ⟨_, rfl⟩
        rw [hf] at cS Hlt Hle
        clear hf
        have lS := cS.lt
        have hjI : (j : Int) < (r.legs.length : Int) := by omega
        have zs : Try.zeroCells154 = setArr noHr := by kernel_rfl
        have Hzs := Lib.hid zs
        clear zs
        go_wp2_with (go_at_call 100; (with_reducible refine (each_new S _).mono ?_); rintro e w1 ⟨rfl, rfl⟩)
        rw [Hzs.out]
        obtain ⟨W6, hW6⟩ : ∃ z : World, z = ((((W.alloc (.cells #[.int .i64 l.lo, .int .i64 l.hi, .slice ar6 l.asl.length c6] 105)).alloc (.cells (setArr noHr) 154)).alloc (.cells #[.pointer (some ⟨W.heap.size + 1, 0, none⟩)] 121)).alloc (.cells #[.pointer (some ⟨S, 0, none⟩)] 121)) := ⟨_, rfl⟩
        have bw6 : Below W.heap.size W W6 := by rw [hW6]; exact ((((Below.refl _ _).alloc (Nat.le_refl _) _).alloc (by simp) _).alloc (by simp; omega) _).alloc (by simp; omega) _
        have z6 : W6.heap.size = W.heap.size + 4 := by rw [hW6]; simp
        have cL6 : Cells W6 W.heap.size #[.int .i64 l.lo, .int .i64 l.hi, .slice ar6 l.asl.length c6] 105 := by rw [hW6]; exact (((Cells.new _ _ _).alloc _).alloc _).alloc _
        have cN6 : Cells W6 (W.heap.size + 1) (setArr noHr) 154 := by rw [hW6]; exact ((Cells.new' _ _ _ _ (by simp)).alloc _).alloc _
        have cB6 : Cells W6 (W.heap.size + 1 + 1) #[.pointer (some ⟨W.heap.size + 1, 0, none⟩)] 121 := by rw [hW6]; exact (Cells.new' _ _ _ _ (by simp)).alloc _
        have cP6 : Cells W6 (W.heap.size + 1 + 1 + 1) #[.pointer (some ⟨S, 0, none⟩)] 121 := by rw [hW6]; exact Cells.new' _ _ _ _ (by simp)
        rw [← hW6]
        clear hW6
        refine act_elim (fun A => A.defers = ds → Sl A (SL (some ⟨bs, offs, none⟩) c p.sends.length (some ⟨b4, off4, none⟩) cr p.routes.length w i s k (some ⟨b6, off6, none⟩) ca r.legs.length S j ++ [(10, .pointer (some ⟨W.heap.size, 0, none⟩)), (11, .pointer (some ⟨W.heap.size + 1 + 1, 0, none⟩)), (50, .func (.func 119) #[] #[.pointer (some ⟨W.heap.size + 1 + 1 + 1, 0, none⟩)])]) → Code.wp _ _ _ A W6) rfl ?_ rfl (by simp only [SL, SR, SO, List.cons_append, List.nil_append]; exact ⟨rfl, rfl, rfl, rfl, rfl, rfl, rfl, rfl, rfl, rfl, rfl, rfl, rfl, rfl, rfl, rfl, rfl, rfl, rfl⟩)
        intro ds' x0 x1 x2 x3 x4 x5 x6 x7 x8 x9 x10 x11 x12 x13 x14 x15 x16 x17 x18 x19 x20 x21 x22 x23 x24 x25 x26 x27 x28 x29 x30 x31 x32 x33 x34 x35 x36 x37 x38 x39 x40 x41 x42 x43 x44 x45 x46 x47 x48 x49 x50 x51 x52 x53 x54 x55 x56 x57 x58 x59 x60 x61 x62 x63 x64 x65 x66 x67 x68 x69 x70 x71 x72 x73 x74 x75 x76 x77 x78 x79 x80 x81 x82 x83 x84 x85 x86 x87 x88 hds hS2
        replace hds : ds' = ds := hds
        subst hds
        simp only [SL, SR, SO, List.cons_append, List.nil_append, Sl, Array.getD_eq_getD_getElem?, List.getElem?_toArray, List.getElem?_cons_zero, List.getElem?_cons_succ, Option.getD_some] at hS2
        obtain ⟨rfl, rfl, rfl, rfl, rfl, rfl, rfl, rfl, rfl, rfl, rfl, rfl, rfl, rfl, rfl, rfl, rfl, rfl, -⟩ := hS2
        have lP := Nat.lt_of_lt_of_le hW.cp.lt bw6.size
        have sL6 := (cS.below bw6).setC
        have hNS : S ≠ W.heap.size + 1 := by omega
        refine (wpIn_wide (n := 5)).1 ?_
        refine wpIn_rangeFunc_ownG rfl (by omega) (gf := 119) (lb := #[.pointer (some ⟨W.heap.size + 1 + 1 + 1, 0, none⟩)]) rfl trivial (enters_of Try.func119 (by kernel_rfl) rfl)
          (each_stops 4 (by omega) W6.heap.size (W.heap.size + 1) (W.heap.size + 1 + 1 + 1) S f W6 (by have := cP6.cell 0; simpa using this) sL6 (by omega) (by omega) (by omega) hNS) KX.trans (fun W l o o' _ h ho _ => KX.putObj W l o o' h ho) (Below.refl _ _) (fun _ => rfl)
          (fun pre V => Cells V (W.heap.size + 1) (setArr (accHr l (pre.map (·.1)))) 154 ∧ Same6 W6.heap.size (W.heap.size + 1) W6 V)
          (fun _ _ _ => False)
          (fun pre X Y row hs hg hr => ⟨(hg.block _ hs.1.lt (fun e => by have := (hr _ e.symm).1; omega)).trans hs.1, hs.2.b.grown hg (by have := hs.1.lt; omega) (fun q e => by have := (hr q e).1; omega), fun q hq hn => (hg.block q (by have := hs.2.b.size; omega) (fun e => by have := (hr _ e.symm).1; omega)).trans (hs.2.s q hq hn)⟩)
          (fun _ _ _ _ _ hs _ _ => hs)
          ⟨cN6, Below.refl _ _, fun _ _ _ => rfl⟩
          (fun x => { tmps := #[x0, .pointer (some ⟨w.heap.size, 0, none⟩), x2, .pointer (some ⟨w.heap.size + 2, 0, none⟩), .int .i64 i, .int .i64 s, .int .i64 k, x7, .pointer (some ⟨S, 0, none⟩), x9, .pointer (some ⟨W.heap.size, 0, none⟩), .pointer (some ⟨W.heap.size + 1 + 1, 0, none⟩), .int .i64 x.1, x13, x14, x15, x16, x17, x18, .slice (some ⟨bs, offs, none⟩) p.sends.length c, .int .i64 p.sends.length, .int .i64 i, x22, x23, x24, x25, x26, .slice (some ⟨b4, off4, none⟩) p.routes.length cr, .int .i64 p.routes.length, .int .i64 k, x30, x31, x32, x33, x34, x35, x36, x37, x38, x39, x40, .slice (some ⟨b6, off6, none⟩) r.legs.length ca, .int .i64 r.legs.length, .int .i64 j, x44, x45, x46, x47, x48, x49, .func (.func 119) #[] #[.pointer (some ⟨W.heap.size + 1 + 1 + 1, 0, none⟩)], .int .i64 x.1, x52, x53, x54, x55, x56, x57, x58, x59, x60, x61, x62, x63, x64, x65, x66, x67, x68, x69, x70, x71, x72, x73, x74, x75, x76, x77, x78, x79, x80, x81, x82, x83, x84, x85, x86, x87, x88], defers := [] }) ?assign ?body ?done ?stop
        case assign =>
          intro l x W K hK
          unfold encH
          gi_wp2
          exact hK
        case body =>
          rintro l0 pre ⟨h, hh1, hh2⟩ V ⟨cN, sm⟩ hlt
          dsimp only
          have h48 := Hle.out h hh2
          have lok := Hlok.out
          simp only [legOk, uptoB, Bool.and_eq_true, decide_eq_true_eq] at lok
          obtain ⟨⟨⟨lo0, lo1⟩, lo2⟩, hasl⟩ := lok
          have Hasl := Lib.hid hasl
          clear hasl
          have cLV := sm.cells cL6 (by omega) (by omega)
          have l0c := cLV.cell 0
          have l1c := cLV.cell 1
          have lLV := cLV.lt
          simp at l0c l1c
          have hcnt : ((l.hi - l.lo + 1).toNat : Int) = l.hi - l.lo + 1 := by omega
          obtain ⟨cnt, hct⟩ : ∃ cnt, (l.hi - l.lo + 1).toNat = cnt := ⟨_, rfl⟩
          rw [hct] at hcnt
          have hc1 : l.hi - l.lo + 1 ≤ cnt ∧ (cnt : Int) ≤ l.hi - l.lo + 1 := by omega
          have Hct := Lib.hid hct
          clear hct hcnt
          gi_wp2
          gi_loopw [60] (fun i wr => ∃ q : Nat, q ≤ cnt ∧ i = .int .i64 q ∧ Cells wr (W.heap.size + 1) (setArr (accN l (pre.map (·.1)) h q)) 154 ∧ Same6 W6.heap.size (W.heap.size + 1) W6 wr ∧ KeepsOthers V wr ∧ KX W6.heap.size (W.heap.size + 1) V wr) (fun i _ => cnt - (intOf i).toNat)
          case atStart => exact ⟨0, Nat.zero_le _, rfl, by rw [accN_zero]; exact cN, sm, KeepsOthers.refl _, KX.refl _ _ _⟩
          case round =>
            obtain ⟨q, hq, rfl, cq, smq, koq, kxq⟩ := hrel
            have cLq := smq.cells cL6 (by omega) (by omega)
            have cBq := smq.cells cB6 (by omega) (by omega)
            have y0 := cLq.cell 0
            have y1 := cLq.cell 1
            have y2 := cLq.cell 2
            have yL := cLq.lt
            have yB := cBq.cell 0
            have yBl := cBq.lt
            simp at y0 y1 y2 yB
            by_cases hqc : q < cnt
            · have bWq : Below W.heap.size W wr := bw6.trans (smq.b.mono (by omega))
              have haw : ∀ X, Below wr.heap.size wr X → Calls Try.prog 101 #[.agg #[.int .i64 l.lo, .int .i64 l.hi, .slice ar6 l.asl.length c6], .int .i64 ((h : Int) + l.lo + q)] X fun e w' => e = .returned (.int .i64 (awk l ((h : Int) + l.lo + q))) ∧ Below X.heap.size X w' :=
                fun X b => awake_leg ar6 c6 l ((h : Int) + l.lo + q) X ((hR6.below bWq).below b) las Hasl.out (by omega) (by omega)
              have hab := awk_bd l ((h : Int) + l.lo + q)
              obtain ⟨v, hv⟩ : ∃ v : Nat, awk l ((h : Int) + l.lo + q) = v := ⟨(awk l ((h : Int) + l.lo + q)).toNat, by omega⟩
              have Hsu := Lib.hid (accN_succ l (pre.map (·.1)) h q v hv)
              rw [hv] at haw hab
              have hv101 : v < 101 := by omega
              have hvI : (v : Int) < 101 := by omega
              clear hv
              have w1 : IntKind.i64.wrap ((h : Int) + l.lo) = (h : Int) + l.lo := IntWalk.i64_in _ (by omega)
              have w2 : IntKind.i64.wrap ((h : Int) + l.lo + q) = (h : Int) + l.lo + q := IntWalk.i64_in _ (by omega)
              gi_wp2
              refine wpIn_region_ext 12 (by kernel_rfl) (by kernel_rfl) (by kernel_rfl) ?_
              simp only [List.take_succ_cons, List.take_zero, List.drop_succ_cons, List.drop_zero]
              (repeat (go_big_quiet_step ((go_at_call 101; refine Calls_ext (haw _ (Ext.below _))))))
              refine wpQuiet_nil ?_
              rintro _ ⟨ex, rfl⟩
              have hex := ex.below
              obtain ⟨W2, hW2⟩ : ∃ z : World, z = ex.to := ⟨_, rfl⟩
              rw [← hW2] at hex ⊢
              clear hW2
              have c2 := cq.below hex
              have f1 := c2.frozen v
              have g1 := c2.cell v
              rw [setArr_get _ v hv101] at g1
              have lg := c2.lt
              gi_wp2
              go_roundw
              case rel =>
                refine ⟨q + 1, by omega, by go_num, ?_, ⟨(smq.b.trans (hex.mono (by have := cq.lt; omega))).setCell (p := ⟨W.heap.size + 1, v, none⟩) (Nat.le_refl _) _, fun z hz hn => ?_⟩, koq.trans ((KeepsOthers.of_below hex).trans (KeepsOthers.setCell _ _ _)), kxq.trans ((KX.below hex).trans (KX.setCell _ _ _))⟩
                · have := c2.set v (.bool true)
                  rw [setArr_set] at this
                  rw [Hsu.out]; exact this
                · rw [Below.heap_setCell _ _ _ _ (show z ≠ _ from hn), hex.block z (by have := smq.b.size; omega)]
                  exact smq.s z hz hn
              case measure => simp [intOf]; omega
            · obtain rfl : q = cnt := by omega
              gi_wp2
              exact ⟨koq.from _, kxq, by rw [List.map_append]; have := cq; rw [← Hct.out, accN_all] at this; exact this, smq⟩
        case done =>
          intro D ys V hD hys hI hK
          obtain ⟨cN, sm⟩ := hI
          have hb : Below W.heap.size W V := bw6.trans (sm.b.mono (by omega))
          have cBV := sm.cells cB6 (by omega) (by omega)
          have yB := cBV.cell 0
          have yBl := cBV.lt
          simp at yB
          rw [hys, accHr_full, ← Hlt.out] at cN
          clear hys
          have hM' := hM.cons hb (show W.heap.size ≤ D by omega) (by have := hW.b.size; omega) hK
          have hW' := hW.below hb
          have eL' := eL.below hb
          have zw := hW.b.size
          have HK := Lib.hid hK
          clear hK hM hW eL cL6 cN6 cB6 cP6 sL6 bw6
          go_wp2
          exact Handed.intro (g3 - 1) (by omega) (hJ3 _ _ _ ⟨j + 1, W.heap.size + 1, by omega, ⟨rfl, rfl, rfl, rfl, rfl, rfl, rfl, rfl, rfl, rfl, rfl, rfl, rfl, rfl, by go_num, rfl⟩, hM', hW', eL', cN, by omega⟩)
        case stop =>
          rintro D c pre V _ _ h _
          exact h.elim
      · obtain rfl : j = r.legs.length := by omega
        have q3 := hW.cw.cell 3
        have lW := hW.cw.lt
        simp at q3
        obtain ⟨nH, hnH, hH⟩ := hW.h
        have hFr : legsHr r.legs s r.legs.length = hrF p i k := by
          unfold legsHr hrF routeHr
          rw [Hrk.out, Hsg.out, List.take_length]; rfl
        have hSC : SetC W S (hrF p i k) := by rw [← hFr]; exact cS.setC
        clear hFr cS eL
        go_wp2_with (at_mapUpdate; refine wpList_hours_put i k (by omega) (by omega) rfl _ _ _ rfl rfl rfl S rfl hSC hH (by unfold maxLen; omega) ?_; intro W8 hH8 hgr hcl)
        have hW8 : WorkI p (some ⟨bs, offs, none⟩) c (some ⟨b4, off4, none⟩) cr w i (k + 1) W8 :=
          ⟨hW.b.grown hgr hW.b.size (fun q e => by cases e; omega), (hgr.block _ hW.cp.lt (by simp)).trans hW.cp, (hgr.block _ hW.cw.lt (by simp)).trans hW.cw, nH + 1, by omega, hH8.sub fun i' k' h => by unfold domF at h ⊢; omega⟩
        have hM8 := hM.grown hgr hH.noDefer
        go_wp2
        exact Handed.intro (g2 - 1) (by omega) (hJ2 _ _ _ ⟨k + 1, by omega, ⟨rfl, rfl, rfl, rfl, rfl, rfl, rfl, rfl, rfl, by go_num, rfl⟩, hM8, hW8⟩)
    · obtain rfl : k = p.routes.length := by omega
      have hW' : WorkI p (some ⟨bs, offs, none⟩) c ar cr w (i + 1) 0 W := ⟨hW.b, hW.cp, hW.cw, let ⟨n, hn, hh⟩ := hW.h; ⟨n, by omega, hh.sub fun i' k' h => by unfold domF at h ⊢; omega⟩⟩
      go_wp2
      exact Handed.intro (g - 1) (by omega) (hJ _ _ _ ⟨i + 1, by omega, ⟨rfl, rfl, rfl, rfl, by go_num, rfl⟩, hM, hW'⟩)
  · obtain rfl : i = p.sends.length := by omega
    obtain ⟨n, hn, hh⟩ := hW.h
    go_wp2
    refine leaves_marks ds _ hM fun w' hw' => ⟨_, results_tmp rfl _ _ _, ?_⟩
    exact ⟨_, rfl, by omega, ⟨_, n, hw'.cells hW.cw, (hh.sub (fun i' k' h => by unfold domF; omega)).turned hw'⟩, hW.b.trans hw'.1⟩
end Go.Proofs.Ytfclemnkcpadpaa
