/- cipher: turned, Code, Decode -/
import Derived.Test.YtmplgcefhpobgaaCe
namespace Go.Proofs.Ytmplgcefhpobgaa
set_option linter.unusedVariables false
set_option linter.unusedSimpArgs false
set_option linter.unnecessarySimpa false
open Go.RowKit Go.Flow

theorem info_int : (Try.prog.info? 3).map (fun i => (i.zero, i.size, i.bytes)) = some (some (.int .i64 0), 1, 8) := by kernel_rfl
theorem elInt : Elem Try.prog 23 3 (.int .i64 0) 1 8 := ⟨Try.underlying23, info_parts info_int, rfl, by decide⟩

/-- The first k values of a function. -/
def upTo (F : Nat → Int) (k : Nat) : List Int := (List.range k).map F
theorem upTo_succ (F : Nat → Int) (k : Nat) : upTo F (k + 1) = upTo F k ++ [F k] := by simp [upTo, List.range_succ]
theorem upTo_len (F : Nat → Int) (k : Nat) : (upTo F k).length = k := by simp [upTo]

set_option maxHeartbeats 1000000 in
theorem turned_any (s wo m a st : Int) (ak : Option Addr) (nk ck : Nat) (ad : Option Addr) (nd cd : Nat) (g : FuncId) (F : Nat → Int) (al : Option Addr) (l : List Int) (cl : Nat) (w : World) (hl : IntsAt w al l) (hn : l.length ≤ 1000)
    (hg : ∀ args w, Sem.run Try.prog (callFunc g args) w = .ok (.enter g args) w)
    (hF : ∀ (k : Nat) (hk : k < l.length) (w1 : World), Calls Try.prog g #[.agg #[.int .i64 s, .int .i64 wo, .slice ak nk ck, .slice ad nd cd], .agg #[.int .i64 m, .int .i64 a, .int .i64 st], .int .i64 l[k], .int .i64 k] w1 fun e w' => e = .returned (.int .i64 (F k)) ∧ Below w1.heap.size w1 w') :
    Calls Try.prog 59 #[.agg #[.int .i64 s, .int .i64 wo, .slice ak nk ck, .slice ad nd cd], .agg #[.func (.func g) #[] #[]], .agg #[.int .i64 m, .int .i64 a, .int .i64 st], .slice al l.length cl] w fun e w' =>
      ∃ a c, e = .returned (.slice a l.length c) ∧ OwnL 3 1 w.heap.size w' a c l.length ((upTo F l.length).map (Value.int .i64)) ∧ Below w.heap.size w w' := by
  go_enter Try.func59, Try.ntmps59
  go_wp2
  go_loopw [8, 9, 10, 13] (fun v _ _ i wr => ∃ (k : Nat) (a' : Option Addr) (c' : Nat), k ≤ l.length ∧ i = .int .i64 k ∧ v = .slice a' k c' ∧ OwnL 3 1 (w.heap.size + 3) wr a' c' k ((upTo F k).map (Value.int .i64)) ∧
      Below (w.heap.size + 3) (((w.alloc (.cells #[.int .i64 s, .int .i64 wo, .slice ak nk ck, .slice ad nd cd] 32)).alloc (.cells #[.func (.func g) #[] #[]] 102)).alloc (.cells #[.int .i64 m, .int .i64 a, .int .i64 st] 91)) wr)
    (fun _ _ _ i _ => l.length - (intOf i).toNat)
  case atStart => exact ⟨0, none, 0, Nat.zero_le _, rfl, rfl, OwnL.nil _ _ _ _, Below.refl _ _⟩
  case round =>
    obtain ⟨k, a', c', hk, rfl, rfl, hown, hbel⟩ := hrel
    have hcr : ∀ b o, b < w.heap.size + 3 → wr.cell? ⟨b, o, none⟩ = _ := fun b o h => hbel.cell (p := ⟨b, o, none⟩) h
    have hz : w.heap.size + 3 ≤ wr.heap.size := by have := hbel.size; simp at this; omega
    have hwr : Below w.heap.size w wr := Below.trans (by (repeat (first | exact Below.refl _ _ | refine Below.alloc ?_ (by first | omega | (simp; done) | (simp; omega)) _ | refine Below.drew ?_ | refine Below.setCell ?_ (by first | omega | (simp; done) | (simp; omega)) _ | refine Below.trans ?_ (Below.mono (by assumption) (by first | omega | (simp; done) | (simp; omega)))))) (hbel.mono (by omega))
    by_cases hlt : k < l.length
    · have hc := (hl.below hwr) k hlt
      obtain ⟨b, off, rfl, hbl, hc⟩ := hc
      go_wp2_with (first
        | (at_builtin; refine wpList_app_lit elInt rfl _ _ rfl (w.heap.size + 3) _ _ _ _ rfl (hown.kept hb1) 1 1 rfl rfl (fun u hu => ?c1) ?c2 ?c3 ?c4 ?_)
        | (refine (hF k hlt wr).mono ?_; rintro e w1 ⟨rfl, hb1⟩))
      case c1 => simp at hu; subst hu; rfl
      case c2 => unfold maxLen; omega
      case c3 => omega
      case c4 => have := hb1.size; omega
      intro a2 c2 w2 hown2 hb2
      go_wp2
      go_roundw
      case rel => exact ⟨k + 1, a2, c2, by omega, by go_num, rfl, by rw [upTo_succ, List.map_append]; exact hown2, hbel.trans ((hb1.mono hz).trans hb2)⟩
      case measure => simp [intOf]; omega
    · obtain rfl : k = l.length := by omega
      go_wp2
      go_ret
      exact ⟨a', c', rfl, hown.base_le (by omega), hwr⟩

def plainOk (s : Int) (x : Int) : Bool := decide (0 ≤ x) && decide (x ≤ s - 1)
theorem plain_meets (s wo : Int) (ak : Option Addr) (ks : List (Int × Int × Int)) (ck : Nat) (ad : Option Addr) (ds : List Int) (cd : Nat) (x : Int) (w : World) (h0 : 0 ≤ s) (h1 : s ≤ 1000) : Meets Try.prog w 57 #[.agg #[.int .i64 s, .int .i64 wo, .slice ak ks.length ck, .slice ad ds.length cd]] #[] (.int .i64 x) (plainOk s x) :=
  fun w1 _ => plain_any s wo x _ _ w1 h0 h1

def codeErr (s wo : Int) (ks : List (Int × Int × Int)) (ds : List Int) (day : Int) (plain : List Int) : Int :=
  if bookErr s wo ks ds ≠ 0 then bookErr s wo ks ds
  else if ¬ (0 ≤ day ∧ day ≤ (ds.length : Int) - 1) then 2
  else if 10 < (plain.length : Int) then 3
  else if plain.all (plainOk s) = false then 2
  else 0
def keyAt (ks : List (Int × Int × Int)) (ds : List Int) (day : Int) : Int × Int × Int := ks.getD (ds.getD day.toNat 0).toNat (0, 0, 0)
def indN (ks : List (Int × Int × Int)) (ds : List Int) (day : Int) : Int := (ds.getD day.toNat 0 + day) % ks.length
def codesN (s : Int) (k : Int × Int × Int) (plain : List Int) : List Int := upTo (fun i => codeN s k.1 k.2.1 k.2.2 (plain.getD i 0) i) plain.length
def codeRes (s : Int) (ks : List (Int × Int × Int)) (ds : List Int) (day : Int) (plain : List Int) : List Int :=
  (indN ks ds day :: codesN s (keyAt ks ds day) plain) ++ [checkN s (indN ks ds day :: codesN s (keyAt ks ds day) plain)]

theorem bookErr_ok {s wo : Int} {ks : List (Int × Int × Int)} {ds : List Int} (h : bookErr s wo ks ds = 0) : ks.length ≤ 5 ∧ ds.length ≤ 8 ∧ 13 ≤ s ∧ s ≤ 41 ∧ primeTo s.toNat s.toNat = true ∧ 1 ≤ wo ∧ wo ≤ s ∧ 0 < ks.length ∧ 0 < ds.length ∧ ks.all (keyOk s) = true ∧ ds.all (ownOk ks.length) = true := by
  unfold bookErr at h
  split at h
  · omega
  · rename_i h1
    split at h
    · rename_i h2
      obtain ⟨a, b, c, d, e, f, g⟩ := h2
      exact ⟨by omega, by omega, a.1, a.2, b, c.1, c.2, List.length_pos_iff.2 d, List.length_pos_iff.2 e, f, g⟩
    · omega

def codeOut (s wo : Int) (ks : List (Int × Int × Int)) (ds : List Int) (day : Int) (plain : List Int) : List Int :=
  if codeErr s wo ks ds day plain = 0 then codeRes s ks ds day plain else []

def SliceErr (B : Nat) (l : List Int) (err : Int) (e : Ending) (w' : World) : Prop := ∃ a c, e = .returned (.tuple #[.slice a l.length c, .int .i64 err]) ∧ OwnL 3 1 B w' a c l.length (l.map (Value.int .i64))
theorem SliceErr.err {B : Nat} {err : Int} {w' : World} : SliceErr B [] err (.returned (.tuple #[.slice none 0 0, .int .i64 err])) w' := ⟨none, 0, rfl, OwnL.nil _ _ _ _⟩

set_option maxHeartbeats 2000000 in
theorem code_full (s wo : Int) (ak : Option Addr) (ks : List (Int × Int × Int)) (ck : Nat) (ad : Option Addr) (ds : List Int) (cd : Nat) (day : Int) (ap : Option Addr) (plain : List Int) (cp : Nat) (w : World) (hk : Recs3At w ak ks) (hd : IntsAt w ad ds) (lk : ks.length ≤ 1000) (ld : ds.length ≤ 1000) (hp : IntsAt w ap plain) (lp : plain.length ≤ 1000) :
    Calls Try.prog 20 #[.agg #[.int .i64 s, .int .i64 wo, .slice ak ks.length ck, .slice ad ds.length cd], .int .i64 day, .slice ap plain.length cp] w fun e w' => SliceErr w.heap.size (codeOut s wo ks ds day plain) (codeErr s wo ks ds day plain) e w' ∧ Below w.heap.size w w' := by
  by_cases hbk : bookErr s wo ks ds = 0
  · have Hbk := Lib.hid hbk
    obtain ⟨_, _, s0, s1, _, _, _, k0, d0, hka, hda⟩ := bookErr_ok hbk
    have Hka := Lib.hid hka
    have Hda := Lib.hid hda
    clear hka hda
    go_enter Try.func20, Try.ntmps20
    go_wp2_with (first
      | (go_at_call 18; refine (checkBook_any s wo ak ks ck ad ds cd _ (hk.below (by (repeat (first | exact Below.refl _ _ | refine Below.alloc ?_ (by first | omega | (simp; done) | (simp; omega)) _ | refine Below.drew ?_ | refine Below.setCell ?_ (by first | omega | (simp; done) | (simp; omega)) _ | refine Below.trans ?_ (Below.mono (by assumption) (by first | omega | (simp; done) | (simp; omega))))))) (hd.below (by (repeat (first | exact Below.refl _ _ | refine Below.alloc ?_ (by first | omega | (simp; done) | (simp; omega)) _ | refine Below.drew ?_ | refine Below.setCell ?_ (by first | omega | (simp; done) | (simp; omega)) _ | refine Below.trans ?_ (Below.mono (by assumption) (by first | omega | (simp; done) | (simp; omega))))))) lk ld).mono ?_; rintro e w1 ⟨rfl, hb1⟩; obtain ⟨hc1, hf1, hz1⟩ := bcell hb1; (try simp at hz1); (try (have hy0 : w.heap.size < w1.heap.size := by omega)); (try (have hy1 : w.heap.size + 1 < w1.heap.size := by omega)); (try (have hy2 : w.heap.size + 2 < w1.heap.size := by omega)))
      | (go_at_call 56; refine (day_any s wo day ak ad ks.length ck ds.length cd _ ld).mono ?_; rintro e w1 ⟨rfl, hb1⟩; obtain ⟨hc1, hf1, hz1⟩ := bcell hb1; (try simp at hz1); (try (have hy0 : w.heap.size < w1.heap.size := by omega)); (try (have hy1 : w.heap.size + 1 < w1.heap.size := by omega)); (try (have hy2 : w.heap.size + 2 < w1.heap.size := by omega)))
      | (go_at_call 54; refine (all_int ap plain cp 57 #[.agg #[.int .i64 s, .int .i64 wo, .slice ak ks.length ck, .slice ad ds.length cd]] #[] (plainOk s) _ (by omega) (hp.below (by (repeat (first | exact Below.refl _ _ | refine Below.alloc ?_ (by first | omega | (simp; done) | (simp; omega)) _ | refine Below.drew ?_ | refine Below.setCell ?_ (by first | omega | (simp; done) | (simp; omega)) _ | refine Below.trans ?_ (Below.mono (by assumption) (by first | omega | (simp; done) | (simp; omega))))))) (enters Try.func57 (by kernel_rfl) rfl) (fun x _ => plain_meets s wo ak ks ck ad ds cd x _ (by omega) (by omega))).mono ?_; rintro e w1 ⟨rfl, hb1⟩; obtain ⟨hc1, hf1, hz1⟩ := bcell hb1; (try simp at hz1); (try (have hy0 : w.heap.size < w1.heap.size := by omega)); (try (have hy1 : w.heap.size + 1 < w1.heap.size := by omega)); (try (have hy2 : w.heap.size + 2 < w1.heap.size := by omega)); cases hpa : plain.all (plainOk s)))
    · have h1 : (!decide (0 ≤ day)) = true ∨ (!decide (day ≤ (ds.length : Int) - 1)) = true := by assumption
      have e1 : codeErr s wo ks ds day plain = 2 := by
        unfold codeErr; rw [if_neg (by simp [Hbk.out]), if_pos (by simp at h1; omega)]
      unfold codeOut
      rw [if_neg (by omega), e1]
      go_ret2
      exact ⟨SliceErr.err, by (repeat (first | exact Below.refl _ _ | refine Below.alloc ?_ (by first | omega | (simp; done) | (simp; omega)) _ | refine Below.drew ?_ | refine Below.setCell ?_ (by first | omega | (simp; done) | (simp; omega)) _ | refine Below.trans ?_ (Below.mono (by assumption) (by first | omega | (simp; done) | (simp; omega)))))⟩
    · have h1 : (!decide (0 ≤ day)) = false ∧ (!decide (day ≤ (ds.length : Int) - 1)) = false := by assumption
      have h2 : 10 < (plain.length : Int) := by assumption
      have e1 : codeErr s wo ks ds day plain = 3 := by
        unfold codeErr; rw [if_neg (by simp [Hbk.out]), if_neg (by simp at h1; omega), if_pos h2]
      unfold codeOut
      rw [if_neg (by omega), e1]
      go_ret2
      exact ⟨SliceErr.err, by (repeat (first | exact Below.refl _ _ | refine Below.alloc ?_ (by first | omega | (simp; done) | (simp; omega)) _ | refine Below.drew ?_ | refine Below.setCell ?_ (by first | omega | (simp; done) | (simp; omega)) _ | refine Below.trans ?_ (Below.mono (by assumption) (by first | omega | (simp; done) | (simp; omega)))))⟩
    · have h1 : (!decide (0 ≤ day)) = false ∧ (!decide (day ≤ (ds.length : Int) - 1)) = false := by assumption
      have h2 : (plain.length : Int) ≤ 10 := by assumption
      have e1 : codeErr s wo ks ds day plain = 2 := by
        unfold codeErr; rw [if_neg (by simp [Hbk.out]), if_neg (by simp at h1; omega), if_neg (by omega), if_pos hpa]
      unfold codeOut
      rw [if_neg (by omega), e1]
      go_ret2
      exact ⟨SliceErr.err, by (repeat (first | exact Below.refl _ _ | refine Below.alloc ?_ (by first | omega | (simp; done) | (simp; omega)) _ | refine Below.drew ?_ | refine Below.setCell ?_ (by first | omega | (simp; done) | (simp; omega)) _ | refine Below.trans ?_ (Below.mono (by assumption) (by first | omega | (simp; done) | (simp; omega)))))⟩
    · have h1 : (!decide (0 ≤ day)) = false ∧ (!decide (day ≤ (ds.length : Int) - 1)) = false := by assumption
      have h2 : (plain.length : Int) ≤ 10 := by assumption
      have e1 : codeErr s wo ks ds day plain = 0 := by
        unfold codeErr; rw [if_neg (by simp [Hbk.out]), if_neg (by simp at h1; omega), if_neg (by omega), if_neg (by rw [hpa]; simp)]
      have hday : 0 ≤ day ∧ day < (ds.length : Int) := by simp at h1; omega
      obtain ⟨d, rfl⟩ := Int.eq_ofNat_of_zero_le hday.1
      have hdl : d < ds.length := by omega
      have E1 := Lib.hid e1
      clear e1 h1
      have hwB : Below w.heap.size w w1 := by (repeat (first | exact Below.refl _ _ | refine Below.alloc ?_ (by first | omega | (simp; done) | (simp; omega)) _ | refine Below.drew ?_ | refine Below.setCell ?_ (by first | omega | (simp; done) | (simp; omega)) _ | refine Below.trans ?_ (Below.mono (by assumption) (by first | omega | (simp; done) | (simp; omega)))))
      have Hall := Lib.hid hpa
      clear hpa
      obtain ⟨b, off, hade, hbl, hcd0⟩ := (hd.below hwB) d hdl
      have hdm := List.all_eq_true.1 Hda.out ds[d] (List.getElem_mem hdl)
      obtain ⟨kk, hkk⟩ : ∃ kk : Nat, ds[d] = (kk : Int) := ⟨ds[d].toNat, by simp [ownOk] at hdm; omega⟩
      have hkl : kk < ks.length := by simp [ownOk] at hdm; omega
      obtain ⟨b2, off2, hake, hbl2, hk0, hk1, hk2⟩ := (hk.below hwB) kk hkl
      have hcd : w1.cell? ⟨b, off + d, none⟩ = some (.int .i64 (kk : Int)) := by rw [hcd0, ← hkk]; simp [hdl]
      have hko := List.all_eq_true.1 Hka.out ks[kk] (List.getElem_mem hkl)
      have hkv : keyAt ks ds (d : Int) = ks[kk] := by simp [keyAt, hdl, hkk, hkl]
      have hiv : indN ks ds (d : Int) = (ds[d] + (d : Int)) % ks.length := by simp [indN, hdl]
      have Hkv := Lib.hid hkv
      have Hiv := Lib.hid hiv
      have Hkk := Lib.hid hkk
      clear hkv hiv hcd0 hkk hdm
      have hkI : (kk : Int) < (ks.length : Int) := by omega
      have hdI : (d : Int) < (ds.length : Int) := by omega
      obtain ⟨⟨m, a, st⟩, hkey⟩ : ∃ q : Int × Int × Int, ks[kk] = q := ⟨_, rfl⟩
      rw [hkey] at hk0 hk1 hk2 hko
      have Hkey := Lib.hid hkey
      clear hkey
      have hF : ∀ (j : Nat) (hj : j < plain.length) (w1 : World), Calls Try.prog 60 #[.agg #[.int .i64 s, .int .i64 wo, .slice ak ks.length ck, .slice ad ds.length cd], .agg #[.int .i64 m, .int .i64 a, .int .i64 st], .int .i64 plain[j], .int .i64 j] w1 fun e w' => e = .returned (.int .i64 (codeN s m a st (plain.getD j 0) j)) ∧ Below w1.heap.size w1 w' := by
        intro j hj w1
        have hx := List.all_eq_true.1 Hall.out plain[j] (List.getElem_mem hj)
        simp [keyOk, plainOk] at hko hx
        have e1 : plain.getD j 0 = plain[j] := by simp [hj]
        rw [e1]
        exact code_any s wo m a st plain[j] j _ _ w1 (by omega) (by omega) (by omega) (by omega) (by omega) (by omega) (by omega) (by omega) (by omega) (by omega) (by omega) (by omega)
      subst hade hake
      (refine wp_region_rel 17 54 [true, true, true, false, true, true, true, true, true, true, true, true, true, true, true, true, false] [OwnV 3 1 w1.heap.size 1 [.int .i64 ((ds[d] + (d : Int)) % ks.length)], OwnV 3 1 w1.heap.size plain.length ((upTo (fun j => codeN s m a st (plain.getD j 0) j) plain.length).map (Value.int .i64))] (by kernel_rfl) (by kernel_rfl) rfl (by kernel_rfl) ?hmono ?_; rotate_left; simp only [maskOps, dummy, List.take_succ_cons, List.take_zero, List.drop_succ_cons, List.drop_zero]; (repeat (refine wpQB_step (fun K hK => ?_); go_simp; first | (refine hK _ ?_; clear hK K) | (apply Exists.intro; refine ⟨fun ex => ?_, hK _ ?_⟩; (go_at_call 58; exact indicator_any s wo _ ks ck _ ds cd d _ (hk.below (hwB.trans (ex.below.mono hwB.size))) (hd.below (hwB.trans (ex.below.mono hwB.size))) lk ld hdl k0 (fun x hx => by have := List.all_eq_true.1 Hda.out x hx; simp [ownOk] at this; omega)); clear hK K))); refine wpQB_nil ?_; simp only [relObl, relEnd, and_true])
      · refine ⟨⟨fun ex => ?_, fun ex => ?_⟩, fun ex => ?_⟩
        · go_simp
          exact ⟨(Below.refl _ _).alloc (Nat.le_refl _) _, _, _, rfl, OwnL.lit #[.int .i64 ((ds[d] + (d : Int)) % ks.length)] ex.size (by decide) rfl⟩
        · go_simp
          refine (turned_any s wo m a st _ ks.length ck _ ds.length cd 60 _ ap plain cp ex.to (hp.below (hwB.trans (ex.below.mono hwB.size))) lp (enters Try.func60 (by kernel_rfl) rfl) hF).mono ?_
          rintro e w' ⟨a', c', rfl, h1, h2⟩
          exact ⟨h2, a', c', rfl, h1.base_le ex.size⟩
        · rintro v1 ⟨a1, c1, rfl, o1⟩ v2 ⟨a2, c2, rfl, o2⟩
          simp only [Act.put, List.setIfInBounds_toArray, List.set_cons_zero, List.set_cons_succ]
          have hex := ex.below
          have hexz := ex.size
          go_wp2_with (at_builtin; refine wpList_app elInt rfl _ _ rfl w1.heap.size _ _ _ _ rfl o1 _ _ _ _ rfl (fun h => ?c1) ?c2 (SrcAt.own o2) (fun u hu => ?c3) ?c4 ?c5 hexz ?_)
          case c1 => subst h; have := o2.isnil; exact ⟨by first | exact this.1 | exact List.eq_nil_of_length_eq_zero this.1, this.2⟩
          case c2 => simp [upTo_len]
          case c3 => obtain ⟨z, _, rfl⟩ := List.mem_map.1 hu; rfl
          case c4 => unfold maxLen; omega
          case c5 => omega
          intro a3 c3 w3 own3 hb3
          have hlen : 1 + plain.length = (((ds[d] + (d : Int)) % ks.length) :: upTo (fun j => codeN s m a st (plain.getD j 0) j) plain.length).length := by simp [upTo_len]; omega
          have own4 : OwnL 3 1 w1.heap.size w3 a3 c3 (1 + plain.length) ((((ds[d] + (d : Int)) % ks.length) :: upTo (fun j => codeN s m a st (plain.getD j 0) j) plain.length).map (Value.int .i64)) := by simpa using own3
          obtain ⟨z0, hz0⟩ : ∃ z, (ds[d] + (d : Int)) % ks.length = z := ⟨_, rfl⟩
          obtain ⟨L, hL⟩ : ∃ L, (z0 :: upTo (fun j => codeN s m a st (plain.getD j 0) j) plain.length) = L := ⟨_, rfl⟩
          have hz1 : 0 ≤ z0 ∧ z0 ≤ 1000 := by rw [← hz0]; exact ⟨Int.emod_nonneg _ (by omega), by have := Int.emod_lt_of_pos (ds[d] + (d : Int)) (show (0 : Int) < ks.length by omega); omega⟩
          rw [hz0, hL] at hlen own4
          have hLb : ∀ x ∈ L, 0 ≤ x ∧ x ≤ 1000 := by
            intro x hx
            rw [← hL] at hx
            rcases List.mem_cons.1 hx with rfl | hx
            · exact hz1
            · simp only [upTo, List.mem_map] at hx
              obtain ⟨j, _, rfl⟩ := hx
              have := codeN_b (s := s) (m := m) (a := a) (st := st) (n := plain.getD j 0) (i := j) (by omega)
              omega
          have hLl : L.length ≤ 1000 := by omega
          have hres : codeOut s wo ks ds d plain = L ++ [checkN s L] := by
            unfold codeOut codeRes
            rw [if_pos E1.out, Hiv.out, Hkv.out, Hkey.out, hz0]
            unfold codesN
            rw [hL]
          have Hres := Lib.hid hres
          rw [hlen]
          clear hres own3 hz0 hL hz1 Hkk
          have hi3 := own4.ints.1
          have hB3 : Below w1.heap.size w1 w3 := hex.trans hb3
          have hc3 : ∀ o, w3.cell? ⟨w.heap.size, o, none⟩ = w1.cell? ⟨w.heap.size, o, none⟩ := fun o => hB3.cell (p := ⟨w.heap.size, o, none⟩) hy0
          have hs3 : w1.heap.size ≤ w3.heap.size := hB3.size
          rw [hlen] at own4
          go_wp2_with (first
            | (at_builtin; refine wpList_app_lit elInt rfl _ _ rfl _ _ _ _ _ rfl (own4.kept hb1) 1 1 rfl rfl (fun u hu => ?q1) ?q2 ?q3 ?q4 ?_)
            | (go_at_call 61; refine (check_any s wo _ _ a3 L c3 _ (by omega) (by omega) (hi3.below (by (repeat (first | exact Below.refl _ _ | refine Below.alloc ?_ (by first | omega | (simp; done) | (simp; omega)) _ | refine Below.drew ?_ | refine Below.setCell ?_ (by first | omega | (simp; done) | (simp; omega)) _ | refine Below.trans ?_ (Below.mono (by assumption) (by first | omega | (simp; done) | (simp; omega))))))) hLl hLb).mono ?_; rintro e w1 ⟨rfl, hb1⟩; obtain ⟨hc1, hf1, hz1⟩ := bcell hb1; (try simp at hz1); (try (have hy0 : w.heap.size < w1.heap.size := by omega)); (try (have hy1 : w.heap.size + 1 < w1.heap.size := by omega)); (try (have hy2 : w.heap.size + 2 < w1.heap.size := by omega))))
          case q1 => simp at hu; subst hu; rfl
          case q2 => unfold maxLen; omega
          case q3 => omega
          case q4 => omega
          intro a5 c5 w5 own5 hb5
          go_wp2
          go_ret2
          refine ⟨?_, hwB.trans ((hB3.mono hwB.size).trans ((hb1.mono (by omega)).trans (hb5.mono hwB.size)))⟩
          rw [Hres.out, E1.out]
          refine ⟨a5, c5, ?_, ?_⟩
          · simp
          · have := own5.base_le hwB.size
            simpa using this
      · intro R hR v w2 w3 h hb
        simp only [List.mem_cons, List.not_mem_nil, or_false] at hR
        rcases hR with rfl | rfl
        · exact h.kept hb
        · exact h.kept hb
  · have Hbk := Lib.hid hbk
    have e1 : codeErr s wo ks ds day plain = bookErr s wo ks ds := by unfold codeErr; rw [if_pos hbk]
    have e2 : codeOut s wo ks ds day plain = [] := by unfold codeOut; rw [if_neg (by rw [e1]; exact hbk)]
    rw [e1, e2]
    clear e1 e2
    have hne : (bookErr s wo ks ds != 0) = true := by simpa using hbk
    clear hbk
    go_enter Try.func20, Try.ntmps20
    go_wp2_with (go_at_call 18; refine (checkBook_any s wo ak ks ck ad ds cd _ (hk.below (by (repeat (first | exact Below.refl _ _ | refine Below.alloc ?_ (by first | omega | (simp; done) | (simp; omega)) _ | refine Below.drew ?_ | refine Below.setCell ?_ (by first | omega | (simp; done) | (simp; omega)) _ | refine Below.trans ?_ (Below.mono (by assumption) (by first | omega | (simp; done) | (simp; omega))))))) (hd.below (by (repeat (first | exact Below.refl _ _ | refine Below.alloc ?_ (by first | omega | (simp; done) | (simp; omega)) _ | refine Below.drew ?_ | refine Below.setCell ?_ (by first | omega | (simp; done) | (simp; omega)) _ | refine Below.trans ?_ (Below.mono (by assumption) (by first | omega | (simp; done) | (simp; omega))))))) lk ld).mono ?_; rintro e w1 ⟨rfl, hb1⟩; obtain ⟨hc1, hf1, hz1⟩ := bcell hb1; (try simp at hz1); (try (have hy0 : w.heap.size < w1.heap.size := by omega)); (try (have hy1 : w.heap.size + 1 < w1.heap.size := by omega)); (try (have hy2 : w.heap.size + 2 < w1.heap.size := by omega)))
    go_ret2
    exact ⟨SliceErr.err, by (repeat (first | exact Below.refl _ _ | refine Below.alloc ?_ (by first | omega | (simp; done) | (simp; omega)) _ | refine Below.drew ?_ | refine Below.setCell ?_ (by first | omega | (simp; done) | (simp; omega)) _ | refine Below.trans ?_ (Below.mono (by assumption) (by first | omega | (simp; done) | (simp; omega)))))⟩
end Go.Proofs.Ytmplgcefhpobgaa
