/- The session book: contracts of the program and of the laws' helpers, joined (Pa). -/
import Derived.Test.YticjeianiahppaaGreatDoorBA
import Derived.DeepKeys4
import Derived.Maps.OwnSet
import Derived.Laws.CopyOwn
import Derived.Deep.RegionLaw
import Derived.Laws.CopyRow
import Derived.Laws.MakeOwn
import Derived.Lib.Mul64
import Derived.Laws.Bits64b
import Derived.RangeFuncNested
import Derived.RangeFuncBound
import Derived.RangeFuncCalls
import Derived.RangeFuncLeaves
import Derived.RangeFuncBox
import Derived.Shelf.Abstract
import Derived.Shelf.RegionOpen
import Derived.OwnWalkIn
import Derived.TacticsInMore
import Derived.LoopNIn
import Derived.LoopIn
import Derived.Deep.RegionHeld3
import Derived.Deep.Cut
import Derived.Lib.SliceRun
import Derived.Deep.AppendLies
import Derived.Laws.Rows
import Derived.Laws.Tables
set_option linter.unusedVariables false
set_option linter.unusedSimpArgs false
set_option linter.unnecessarySimpa false
set_option maxRecDepth 100000
set_option maxHeartbeats 40000000
namespace Go.Proofs.YticjeianiahppaaGreatDoor.Pay
open Go.RowKit Go.Flow
structure Dis where
 payer:Int
 lo:Int
 hi:Int
 passed:List Int
structure Acc where
 st:Int
 rate:Int
 keeps:Int
 ds:List Dis
structure PassAt (w:World) (a:Option Addr) (c:Nat) (l:List Int):Prop where
 at_:IntsAt w a l
 le:l.length≤c
 nil:a=none→c=0
theorem PassAt.below {w w' : World} {a:Option Addr} {c:Nat} {l:List Int} (h:PassAt w a c l) (hb:Below w.heap.size w w'):PassAt w' a c l:=⟨h.at_.below hb,h.le,h.nil⟩
def zDE (w:World) (a:Option Addr) (ds:List Dis):Prop :=
 ∀ k (h:k < ds.length),∃ b off al c,a=some ⟨b,off,none⟩∧b < w.heap.size∧w.cell? ⟨b,off + k * 4,none⟩=some (.int .i64 ds[k].payer)∧w.cell? ⟨b,off + k * 4 + 1,none⟩=some (.int .i64 ds[k].lo)∧w.cell? ⟨b,off + k * 4 + 2,none⟩=some (.int .i64 ds[k].hi)∧w.cell? ⟨b,off + k * 4 + 3,none⟩=some (.slice al ds[k].passed.length c)∧PassAt w al c ds[k].passed
theorem zDE.below {w w' : World} {a:Option Addr} {ds:List Dis} (h:zDE w a ds) (hb:Below w.heap.size w w'):zDE w' a ds:=fun k hk =>
 let ⟨b,off,al,c,ha,hlt,h0,h1,h2,h3,h4⟩:=h k hk
 ⟨b,off,al,c,ha,Nat.lt_of_lt_of_le hlt hb.size,(hb.cell (p:=⟨b,_,none⟩) hlt).trans h0,(hb.cell (p:=⟨b,_,none⟩) hlt).trans h1,(hb.cell (p:=⟨b,_,none⟩) hlt).trans h2,(hb.cell (p:=⟨b,_,none⟩) hlt).trans h3,h4.below hb⟩
theorem zDE.nil (w:World) (a:Option Addr):zDE w a []:=fun k hk => absurd hk (Nat.not_lt_zero k)
def inR (n lo hi:Int):Bool:=decide (lo≤n) && decide (n≤hi)
theorem zDl {n lo hi:Int}:inR n lo hi=true↔lo≤n∧n≤hi:=by simp [inR]
def fewB (d:Dis):Bool:=decide (d.passed.length≤5)
def zK2 (st:Int) (l:List Int):Bool:=(List.range l.length).all fun k => inR (l.getD k 0) 0 (st - 1) && !(l.take k).contains (l.getD k 0)
def disB (st:Int) (d:Dis):Bool:=zK2 st d.passed && inR d.payer 0 (st - 1) && decide (1≤d.lo) && decide (d.lo≤d.hi) && decide (d.hi≤200) && decide (0 < d.passed.length)
def zEW (a:Acc):Int :=
 if 7 < a.st∨6 < a.ds.length∨a.ds.all fewB=false then 3
 else if a.st < 1∨inR a.rate 0 20=false∨inR a.keeps 0 100=false∨a.ds.all (disB a.st)=false then 1
 else 0
structure AccOk (a:Acc):Prop where
 st:1≤a.st∧a.st≤7
 rate:0≤a.rate∧a.rate≤20
 keeps:0≤a.keeps∧a.keeps≤100
 len:a.ds.length≤6
 few:∀ d ∈ a.ds,d.passed.length≤5
 dis:∀ d ∈ a.ds,disB a.st d=true
theorem zI4 {a:Acc} (h:zEW a=0):AccOk a:=by
 unfold zEW at h
 split at h
 ·omega
 ·rename_i h1
  split at h
  ·omega
  ·rename_i h2
   simp only [not_or,Bool.not_eq_false] at h1 h2
   obtain ⟨a1,a2,a3⟩:=h1
   obtain ⟨b1,b2,b3,b4⟩:=h2
   rw [zDl] at b2 b3
   rw [List.all_eq_true] at a3 b4
   exact ⟨by omega,b2,b3,by omega,fun d hd => by simpa [fewB] using a3 d hd,b4⟩
structure DisOk (st:Int) (d:Dis):Prop where
 payer:0≤d.payer∧d.payer < st
 lo:1≤d.lo
 le:d.lo≤d.hi
 hi:d.hi≤200
 pos:0 < d.passed.length
 in_:∀ s ∈ d.passed,0≤s∧s < st
 nd:d.passed.Nodup
theorem zMD {st:Int} {l:List Int}:zK2 st l=true↔(∀ s ∈ l,0≤s∧s < st)∧l.Nodup:=by
 unfold zK2
 rw [List.all_eq_true]
 constructor
 ·intro h
  refine ⟨fun s hs => ?_,?_⟩
  ·obtain ⟨k,hk,rfl⟩:=List.getElem_of_mem hs
   have:=h k (by simpa using hk)
   simp only [Bool.and_eq_true,zDl] at this
   have e:l.getD k 0=l[k]:=by simp [hk]
   rw [e] at this
   omega
  ·rw [List.nodup_iff_pairwise_ne,List.pairwise_iff_getElem]
   intro i j hi hj hij e
   have:=h j (by simpa using hj)
   simp only [Bool.and_eq_true,Bool.not_eq_true'] at this
   have e2:l.getD j 0=l[j]:=by simp [hj]
   rw [e2,List.contains_eq_any_beq,List.any_eq_false] at this
   exact this.2 l[i] (List.mem_iff_getElem.2 ⟨i,by simp;omega,by simp⟩) (by simp [e])
 ·rintro ⟨h1,h2⟩ k hk
  have hk' : k < l.length:=by simpa using hk
  have e:l.getD k 0=l[k]:=by simp [hk']
  rw [e]
  simp only [Bool.and_eq_true,zDl,Bool.not_eq_true',List.contains_eq_any_beq,List.any_eq_false]
  refine ⟨by have:=h1 _ (List.getElem_mem hk');omega,fun x hx => ?_⟩
  obtain ⟨i,hi,rfl⟩:=List.getElem_of_mem hx
  simp only [List.length_take] at hi
  rw [List.getElem_take]
  intro e
  have e:l[k]=l[i]:=by simpa using e
  have:=List.nodup_iff_pairwise_ne.1 h2
  exact List.pairwise_iff_getElem.1 this i k (by omega) hk' (by omega) e.symm
theorem zHO {st:Int} {d:Dis} (h:disB st d=true):DisOk st d:=by
 unfold disB at h
 simp only [Bool.and_eq_true,zDl,decide_eq_true_eq] at h
 obtain ⟨⟨⟨⟨⟨h1,h2⟩,h3⟩,h4⟩,h5⟩,h6⟩:=h
 obtain ⟨h7,h8⟩:=zMD.1 h1
 exact ⟨by omega,h3,h4,h5,h6,h7,h8⟩
def zKf (rate keeps n:Int):Int:=n * rate * keeps / 100
def zAf (rate keeps:Int) (k:Nat) (n:Int):List Int :=
 (List.range k).map fun (i:Nat) => (n * rate - zKf rate keeps n) / (k:Int) + (if i=0 then zKf rate keeps n else 0) + (if (k:Int) - (n * rate - zKf rate keeps n) % (k:Int)≤(i:Int) then 1 else 0)
theorem zCK (rate keeps:Int) (k:Nat) (n:Int):(zAf rate keeps k n).length=k:=by simp [zAf]
theorem zHH (a:Option Addr) (xs:List Dis) (c:Nat) (g:FuncId) (first cap:Array Value) (p:Dis→Bool) (w:World) (hl:xs.length≤9223372036854775807) (hx:zDE w a xs)
  (hg:∀ args w,Sem.run Tryz.prog (callFunc g args) w=.ok (.enter g args) w) (hp:∀ x ∈ xs,∀ ar ca,PassAt w ar ca x.passed→zAc Tryz.prog w g first cap (.agg #[.int .i64 x.payer,.int .i64 x.lo,.int .i64 x.hi,.slice ar x.passed.length ca]) (p x)) :
  Calls Tryz.prog 315 #[.slice a xs.length c,.func (.func g) first cap] w fun e w' => e=.returned (.int .i64 (idxBy p xs 0))∧Below w.heap.size w w':=by
 go_enter Tryz.func315,Tryz.ntmps315
 go_wp2
 go_loopw [5,8] (fun _ i wr => ∃ k:Nat,k≤xs.length∧i=.int .i64 k∧Below w.heap.size w wr∧idxBy p xs 0=idxBy p (xs.drop k) k) (fun _ i _ => xs.length - (intOf i).toNat)
 case atStart => exact ⟨0,Nat.zero_le _,rfl,Below.refl _ _,by simp⟩
 case round =>
  obtain ⟨k,hk,rfl,hb,hi⟩:=hrel
  have Hi:=Lib.hid hi
  clear hi
  by_cases hlt:k < xs.length
  ·obtain ⟨b,off,ar,ca,rfl,hbl,h0,h1,h2,h2b,h3⟩:=hx k hlt
   have hm:=hp xs[k] (List.getElem_mem hlt) ar ca h3
   have h0':=(hb.cell (p:=⟨b,off + k * 4,none⟩) hbl).trans h0
   have h1':=(hb.cell (p:=⟨b,off + k * 4 + 1,none⟩) hbl).trans h1
   have h2':=(hb.cell (p:=⟨b,off + k * 4 + 2,none⟩) hbl).trans h2
   have h2b':=(hb.cell (p:=⟨b,off + k * 4 + 3,none⟩) hbl).trans h2b
   clear h0 h1 h2 h2b h3
   go_wp2_with (refine (hm wr hb).mono ?_;rintro e w1 ⟨rfl,hb1⟩)
   ·have h1:p xs[k]=true:=by assumption
    go_ret
    exact ⟨by rw [Hi.out,idxBy_hit p xs k hlt h1];rfl,hb.trans (hb1.mono hb.size)⟩
   ·have h1:p xs[k]=false:=by assumption
    go_roundw
    case rel => exact ⟨k + 1,by omega,by go_num,hb.trans (hb1.mono hb.size),by rw [Hi.out,idxBy_miss p xs k hlt h1]⟩
    case measure => simp [intOf];omega
  ·go_wp2
   go_ret
   exact ⟨by rw [Hi.out,zBQ p xs k k (by omega)];rfl,hb⟩
theorem zFC (a:Option Addr) (xs:List Dis) (c:Nat) (g:FuncId) (first cap:Array Value) (p:Dis→Bool) (w:World) (hl:xs.length≤9223372036854775807) (hx:zDE w a xs)
  (hg:∀ args w,Sem.run Tryz.prog (callFunc g args) w=.ok (.enter g args) w) (hp:∀ x ∈ xs,∀ ar ca,PassAt w ar ca x.passed→zAc Tryz.prog w g first cap (.agg #[.int .i64 x.payer,.int .i64 x.lo,.int .i64 x.hi,.slice ar x.passed.length ca]) (p x)) :
  Calls Tryz.prog 281 #[.slice a xs.length c,.func (.func g) first cap] w fun e w' => e=.returned (.bool (xs.any p))∧Below w.heap.size w w':=by
 rw [← zBJ p xs 0]
 have hi:=zBP p xs 0
 go_enter Tryz.func281,Tryz.ntmps281
 go_wp2_with (go_at_call 315;refine (zHH a xs c g first cap p w hl hx hg hp).mono ?_;rintro e w1 ⟨rfl,hb1⟩;obtain ⟨hc1,hf1,hz1⟩:=zAk hb1;(try simp at hz1);(try (have hy0:w.heap.size < w1.heap.size:=by omega));(try (have hy1:w.heap.size + 1 < w1.heap.size:=by omega));(try (have hy2:w.heap.size + 2 < w1.heap.size:=by omega)))
 go_ret
 exact ⟨rfl,hb1⟩
theorem zLK (x:Dis) (ar:Option Addr) (ca:Nat) (B:Nat) (g:FuncId) (first cap:Array Value) (q:Bool) (w:World) (hB:B < w.heap.size) (hc:w.cell? ⟨B,0,none⟩=some (.func (.func g) first cap))
  (hg:∀ args w,Sem.run Tryz.prog (callFunc g args) w=.ok (.enter g args) w) (hm:zAc Tryz.prog w g first cap (.agg #[.int .i64 x.payer,.int .i64 x.lo,.int .i64 x.hi,.slice ar x.passed.length ca]) q):zAc Tryz.prog w 282 #[] #[.pointer (some ⟨B,0,none⟩)] (.agg #[.int .i64 x.payer,.int .i64 x.lo,.int .i64 x.hi,.slice ar x.passed.length ca]) !q:=by
 intro w' hb'
 have hc' : w'.cell? ⟨B,0,none⟩=some (.func (.func g) first cap):=(hb'.cell (p:=⟨B,0,none⟩) hB).trans hc
 have hBw:B < w'.heap.size:=Nat.lt_of_lt_of_le hB hb'.size
 clear hc
 show Calls Tryz.prog 282 #[.agg #[.int .i64 x.payer,.int .i64 x.lo,.int .i64 x.hi,.slice ar x.passed.length ca],.pointer (some ⟨B,0,none⟩)] w' _
 go_enter Tryz.func282,Tryz.ntmps282
 go_wp2_with (refine (hm _ (hb'.trans ((Below.refl _ _).alloc hb'.size _))).mono ?_;rintro e w1 ⟨rfl,hb1⟩)
 go_ret
 exact ⟨rfl,((Below.refl _ _).alloc (Nat.le_refl _) _).trans (hb1.mono (by simp))⟩
theorem zNQ (a:Option Addr) (xs:List Dis) (c:Nat) (g:FuncId) (first cap:Array Value) (p:Dis→Bool) (w:World) (hl:xs.length≤9223372036854775807) (hx:zDE w a xs)
  (hg:∀ args w,Sem.run Tryz.prog (callFunc g args) w=.ok (.enter g args) w) (hp:∀ x ∈ xs,∀ W,Below w.heap.size w W→∀ ar ca,PassAt W ar ca x.passed→zAc Tryz.prog W g first cap (.agg #[.int .i64 x.payer,.int .i64 x.lo,.int .i64 x.hi,.slice ar x.passed.length ca]) (p x)) :
  Calls Tryz.prog 227 #[.slice a xs.length c,.func (.func g) first cap] w fun e w' => e=.returned (.bool (xs.all p))∧Below w.heap.size w w':=by
 have e1:xs.all p = !(xs.any fun x => !p x):=by rw [List.all_eq_not_any_not]
 rw [e1]
 have hb0:Below w.heap.size w (w.alloc (.cells #[.func (.func g) first cap] 329)):=(Below.refl _ _).alloc (Nat.le_refl _) _
 have hp':=fun x hxx => hp x hxx _ hb0
 go_enter Tryz.func227,Tryz.ntmps227
 go_wp2_with (go_at_call 281;refine (zFC a xs c 282 #[] #[.pointer (some ⟨w.heap.size,0,none⟩)] (fun x => !p x) _ hl (hx.below hb0) (enters Tryz.func282 (by kernel_rfl) rfl) (fun x hxx ar ca h => zLK x ar ca w.heap.size g first cap (p x) _ (by simp) (by rw [World.cell?_alloc_at _ _ _ _ rfl];rfl) hg (hp' x hxx ar ca h))).mono ?_;rintro e w1 ⟨rfl,hb1⟩;obtain ⟨hc1,hf1,hz1⟩:=zAk hb1;(try simp at hz1);(try (have hy0:w.heap.size < w1.heap.size:=by omega));(try (have hy1:w.heap.size + 1 < w1.heap.size:=by omega));(try (have hy2:w.heap.size + 2 < w1.heap.size:=by omega)))
 go_ret
 exact ⟨by simp,hb0.trans (hb1.mono (by simp))⟩
theorem zAK {w:World} {b o:Nat} {v:Value} (h:w.cell? ⟨b,o,none⟩=some v):b < w.heap.size:=by
 rcases Nat.lt_or_ge b w.heap.size with hl | hl
 ·exact hl
 ·simp [World.cell?,Array.getElem?_eq_none hl] at h
theorem zCM {a b:Bool} (h:a=b):Ending.returned (.bool a)=.returned (.bool b):=by rw [h]
theorem zIg {k:IntKind} {a b:Int} (h:a=b):Ending.returned (.int k a)=.returned (.int k b):=by rw [h]
theorem zAm (a b c:Int) (w:World) :
  Calls Tryz.prog 229 #[.int .i64 a,.int .i64 b,.int .i64 c] w fun e w' => e=.returned (.bool (inR a b c))∧w=w':=by
 by_cases h:b≤a
 ·have h1:decide (b≤a)=true:=by simpa using h
  go_enter Tryz.func229,Tryz.ntmps229
  go_wp2
  go_ret
  exact ⟨by simp [inR,h1],rfl⟩
 ·have h1:decide (b≤a)=false:=by simpa using h
  go_enter Tryz.func229,Tryz.ntmps229
  go_wp2
  go_ret
  exact ⟨by simp [inR,h1],rfl⟩
theorem zJE (p x y:Int) (al:Option Addr) (ca n:Nat) (w:World) (hn:n≤9223372036854775807) :
  Calls Tryz.prog 228 #[.agg #[.int .i64 p,.int .i64 x,.int .i64 y,.slice al n ca]] w fun e w' => e=.returned (.bool (decide (n≤5)))∧Below w.heap.size w w':=by
 have e:decide (n≤5)=decide ((n:Int)≤5):=decide_eq_decide.2 (by omega)
 rw [e]
 go_enter Tryz.func228,Tryz.ntmps228
 go_wp2
 go_ret
 exact ⟨rfl,(Below.refl _ _).alloc (Nat.le_refl _) _⟩
theorem zIb (st rate keeps:Int) (ad:Option Addr) (nd cd:Nat) (n:Int) (w:World) (h1:1≤st) (h2:st≤1000) :
  Calls Tryz.prog 279 #[.agg #[.int .i64 st,.int .i64 rate,.int .i64 keeps,.slice ad nd cd],.int .i64 n] w fun e w' => e=.returned (.bool (inR n 0 (st - 1)))∧Below w.heap.size w w':=by
 have hw:IntKind.i64.wrap (st - 1)=st - 1:=IntWalk.i64_in _ (by omega)
 go_enter Tryz.func279,Tryz.ntmps279
 go_wp2_with (go_at_call 229;refine (zAm _ _ _ _).mono ?_;rintro e w1 ⟨rfl,rfl⟩)
 go_ret
 exact ⟨rfl,(Below.refl _ _).alloc (Nat.le_refl _) _⟩
theorem zFm (a:Option Addr) (xs:List Int) (c:Nat) (x:Int) (w:World) (hl:xs.length≤9223372036854775807) (hx:IntsAt w a xs) :
  Calls Tryz.prog 230 #[.slice a xs.length c,.int .i64 x] w fun e w' => e=.returned (.int .i64 (idxBy (fun y => x == y) xs 0))∧w=w':=by
 go_enter Tryz.func230,Tryz.ntmps230
 go_wp2
 go_loopw [5,8] (fun _ i wr => ∃ k:Nat,k≤xs.length∧i=.int .i64 k∧wr=w∧idxBy (fun y => x == y) xs 0=idxBy (fun y => x == y) (xs.drop k) k) (fun _ i _ => xs.length - (intOf i).toNat)
 case atStart => exact ⟨0,Nat.zero_le _,rfl,rfl,by simp⟩
 case round =>
  obtain ⟨k,hk,rfl,rfl,hi⟩:=hrel
  have Hi:=Lib.hid hi
  clear hi
  by_cases hlt:k < xs.length
  ·obtain ⟨b,off,rfl,hbl,hc⟩:=hx k hlt
   obtain ⟨y,hy⟩:∃ y,xs[k]=y:=⟨_,rfl⟩
   have hc' : wr.cell? ⟨b,off + k,none⟩=some (.int .i64 y):=hc.trans (by simp [hlt,hy])
   clear hc
   cases hxy:(x == y)
   ·go_wp2
    go_roundw
    case rel => exact ⟨k + 1,by omega,by go_num,by trivial,by rw [Hi.out,idxBy_miss (fun y => x == y) xs k hlt (by rw [hy];exact hxy)]⟩
    case measure => simp [intOf];omega
   ·go_wp2
    go_ret
    exact ⟨by rw [Hi.out,idxBy_hit (fun y => x == y) xs k hlt (by rw [hy];exact hxy)];rfl,rfl⟩
  ·go_wp2
   go_ret
   exact ⟨by rw [Hi.out,zBQ (fun y => x == y) xs k k (by omega)];rfl,rfl⟩
theorem zIT (a:Option Addr) (xs:List Int) (c:Nat) (x:Int) (w:World) (hl:xs.length≤9223372036854775807) (hx:IntsAt w a xs) :
  Calls Tryz.prog 280 #[.slice a xs.length c,.int .i64 x] w fun e w' => e=.returned (.bool (xs.contains x))∧w=w':=by
 have e:xs.contains x=xs.any (fun y => x == y):=by rw [List.contains_eq_any_beq]
 rw [e,← zBJ (fun y => x == y) xs 0]
 have hi:=zBP (fun y => x == y) xs 0
 go_enter Tryz.func280,Tryz.ntmps280
 go_wp2_with (go_at_call 230;refine (zFm a xs c x w hl hx).mono ?_;rintro e w1 ⟨rfl,rfl⟩)
 go_ret
 exact ⟨rfl,rfl⟩
theorem zFz (a:Option Addr) (xs:List Int) (n c:Nat) (hn:xs.length=n) (x:Int) (B:Bool) (hB:Hid (xs.contains x=B)) (w:World) (hl:n≤9223372036854775807) (hx:IntsAt w a xs) :
  Calls Tryz.prog 280 #[.slice a n c,.int .i64 x] w fun e w' => e=.returned (.bool B)∧w=w':=by
 subst hn
 rw [← hB.out]
 exact zIT a xs c x w hl hx
theorem zL3 {w:World} {a:Option Addr} {l:List Int} (h:IntsAt w a l) (k:Nat):IntsAt w a (l.take k):=fun j hj => by
 have hj' : j < l.length:=by simp at hj;omega
 obtain ⟨b,off,ha,hb,hc⟩:=h j hj'
 refine ⟨b,off,ha,hb,hc.trans ?_⟩
 simp only [List.length_take] at hj
 have:j < k:=by omega
 simp [List.getElem?_take,this]
theorem zMC (st:Int) (l:List Int) {k:Nat} (hk:k < l.length):((List.range l.length).drop k).all (fun k => inR (l.getD k 0) 0 (st - 1) && !(l.take k).contains (l.getD k 0))=((inR l[k] 0 (st - 1) && !(l.take k).contains l[k]) && ((List.range l.length).drop (k + 1)).all (fun k => inR (l.getD k 0) 0 (st - 1) && !(l.take k).contains (l.getD k 0))):=by
 rw [List.drop_eq_getElem_cons (show k < (List.range l.length).length by simpa using hk),List.all_cons]
 simp [hk]
theorem zC3 (st rate keeps:Int) (ad:Option Addr) (nd cd:Nat) (al:Option Addr) (ca:Nat) (d:Dis) (w:World) (h1:1≤st) (h2:st≤1000) (hd:PassAt w al ca d.passed) (hl:d.passed.length≤1000) :
  Calls Tryz.prog 226 #[.agg #[.int .i64 st,.int .i64 rate,.int .i64 keeps,.slice ad nd cd],.agg #[.int .i64 d.payer,.int .i64 d.lo,.int .i64 d.hi,.slice al d.passed.length ca]] w fun e w' => e=.returned (.bool (disB st d))∧Below w.heap.size w w':=by
 obtain ⟨py,lo,hi,l⟩:=d
 simp only at hd hl
 obtain ⟨W1,hW1⟩:∃ z:World,z=(w.alloc (.cells #[.int .i64 st,.int .i64 rate,.int .i64 keeps,.slice ad nd cd] 55)).alloc (.cells #[.int .i64 py,.int .i64 lo,.int .i64 hi,.slice al l.length ca] 192):=⟨_,rfl⟩
 have t1:Below w.heap.size w W1:=by rw [hW1];exact ((Below.refl _ _).alloc (Nat.le_refl _) _).alloc (by simp) _
 have CA:Cells W1 w.heap.size #[.int .i64 st,.int .i64 rate,.int .i64 keeps,.slice ad nd cd] 55:=by rw [hW1];exact (Cells.new _ _ _).alloc _
 have CD:Cells W1 (w.heap.size + 1) #[.int .i64 py,.int .i64 lo,.int .i64 hi,.slice al l.length ca] 192:=by rw [hW1];exact Cells.new' _ _ _ _ (by simp)
 have z1:W1.heap.size=w.heap.size + 1 + 1:=by rw [hW1];simp
 have stn:=fun (W:World) (n:Int) => zIb st rate keeps ad nd cd n W h1 h2
 have hcap:l.length≤ca:=hd.le
 replace hd:=hd.at_.below t1
 go_enter Tryz.func226,Tryz.ntmps226
 go_wp2_with fail
 rw [← hW1]
 clear hW1
 go_loopw [5,6,10] (fun _ _ i wr => ∃ k:Nat,k≤l.length∧i=.int .i64 k∧Below W1.heap.size W1 wr∧zK2 st l=((List.range l.length).drop k).all (fun k => inR (l.getD k 0) 0 (st - 1) && !(l.take k).contains (l.getD k 0))) (fun _ _ i _ => l.length - (intOf i).toNat)
 case atStart => exact ⟨0,Nat.zero_le _,rfl,Below.refl _ _,by simp [zK2]⟩
 case round =>
  obtain ⟨k,hk,rfl,hb,hi⟩:=hrel
  have Hi:=Lib.hid hi
  clear hi
  have z:=hb.size
  have q0:=(CA.below hb).cell 0
  have q1:=(CA.below hb).cell 1
  have q2:=(CA.below hb).cell 2
  have q3:=(CA.below hb).cell 3
  have lq:=(CA.below hb).lt
  have p0:=(CD.below hb).cell 0
  have p1:=(CD.below hb).cell 1
  have p2:=(CD.below hb).cell 2
  have p3:=(CD.below hb).cell 3
  have lp:=(CD.below hb).lt
  simp at q0 q1 q2 q3 p0 p1 p2 p3
  by_cases hlt:k < l.length
  ·have hd2:=zMC st l hlt
   obtain ⟨b,off,rfl,hbl,hc⟩:=(hd.below hb) k hlt
   have hT:=zL3 (hd.below hb) k
   have hkT:(l.take k).length=k:=by simp;omega
   have hkI:(k:Int) < (l.length:Int):=by omega
   obtain ⟨x,hx⟩:∃ x,l[k]=x:=⟨_,rfl⟩
   replace hc:wr.cell? ⟨b,off + k,none⟩=some (.int .i64 x):=hc.trans (by simp [hlt,hx])
   rw [hx] at hd2
   have hst:=stn wr x
   obtain ⟨B,hB⟩:∃ B,(l.take k).contains x=B:=⟨_,rfl⟩
   rw [hB] at hd2
   have HB:=Lib.hid hB
   clear hB hx stn
   cases hs:inR x 0 (st - 1)
   ·rw [hs] at hst hd2
    have Hd:=Lib.hid hd2
    clear hd2
    go_wp2_with (go_at_call 279;(with_reducible refine hst.mono ?_);rintro e w1 ⟨rfl,hb1⟩)
    go_ret
    exact ⟨zCM (by unfold disB;rw [Hi.out,Hd.out];rfl),t1.trans ((hb.trans (hb1.mono z)).mono t1.size)⟩
   ·rw [hs] at hst hd2
    have Hd:=Lib.hid hd2
    clear hd2
    go_wp2_with fail
    go_at_call 279
    refine hst.mono ?_
    rintro e w1 ⟨rfl,hb1⟩
    have p3':=zAA hb1 p3
    have lp1:=zAK p3'
    replace hT:=hT.below hb1
    have b1:=hb.trans (hb1.mono z)
    cases B
    ·go_wp2_with (go_at_call 280;(with_reducible refine (zFz _ _ k _ hkT x false HB _ (by omega) hT).mono ?_);rintro e w2 ⟨rfl,rfl⟩)
     go_roundw
     case rel => exact ⟨k + 1,by omega,by go_num,b1,by rw [Hi.out,Hd.out];rfl⟩
     case measure => simp [intOf];omega
    ·go_wp2_with (go_at_call 280;(with_reducible refine (zFz _ _ k _ hkT x true HB _ (by omega) hT).mono ?_);rintro e w2 ⟨rfl,rfl⟩)
     go_ret
     exact ⟨zCM (by unfold disB;rw [Hi.out,Hd.out];rfl),t1.trans (b1.mono t1.size)⟩
  ·obtain rfl:k=l.length:=by omega
   have hon:zK2 st l=true:=by rw [Hi.out,List.drop_of_length_le (by simp)];rfl
   have Hon:=Lib.hid hon
   clear hon Hi
   have hst:=stn wr py
   cases hs:inR py 0 (st - 1)
   ·rw [hs] at hst
    have Hs:=Lib.hid hs
    go_wp2_with (go_at_call 279;(with_reducible refine hst.mono ?_);rintro e w1 ⟨rfl,hb1⟩)
    go_ret
    exact ⟨zCM (by unfold disB;simp [Hon.out,Hs.out]),t1.trans ((hb.trans (hb1.mono z)).mono t1.size)⟩
   ·rw [hs] at hst
    have Hs:=Lib.hid hs
    go_wp2_with fail
    go_at_call 279
    refine hst.mono ?_
    rintro e w1 ⟨rfl,hb1⟩
    replace p0:=zAA hb1 p0
    replace p1:=zAA hb1 p1
    replace p2:=zAA hb1 p2
    replace p3:=zAA hb1 p3
    have lp1:=zAK p3
    have b1:=t1.trans ((hb.trans (hb1.mono z)).mono t1.size)
    have hdB:disB st ⟨py,lo,hi,l⟩=(decide (1≤lo) && decide (lo≤hi) && decide (hi≤200) && decide ((0:Int) < (l.length:Int))):=by
     have e4:decide (0 < l.length)=decide ((0:Int) < (l.length:Int)):=decide_eq_decide.2 (by omega)
     unfold disB;simp only [Hon.out,Hs.out,e4,Bool.true_and]
    have HdB:=Lib.hid hdB
    clear hdB hs
    cases c1:decide (1≤lo)
    ·go_wp2
     go_ret
     exact ⟨zCM (by rw [HdB.out,c1];rfl),b1⟩
    cases c2:decide (lo≤hi)
    ·go_wp2
     go_ret
     exact ⟨zCM (by rw [HdB.out,c1,c2];rfl),b1⟩
    cases c3:decide (hi≤200)
    ·go_wp2
     go_ret
     exact ⟨zCM (by rw [HdB.out,c1,c2,c3];rfl),b1⟩
    go_wp2
    go_ret
    exact ⟨zCM (by rw [HdB.out,c1,c2,c3];simp),b1⟩
structure AccSmall (a:Acc):Prop where
 d:a.ds.length≤1000
 p:∀ d ∈ a.ds,d.passed.length≤1000
theorem zFD (st rate keeps:Int) (ds:List Dis) (ad:Option Addr) (cd:Nat) (w:World) (hd:zDE w ad ds) (sm:AccSmall ⟨st,rate,keeps,ds⟩) :
  Calls Tryz.prog 175 #[.agg #[.int .i64 st,.int .i64 rate,.int .i64 keeps,.slice ad ds.length cd]] w fun e w' => e=.returned (.int .i64 (zEW ⟨st,rate,keeps,ds⟩))∧Below w.heap.size w w':=by
 have l0:ds.length≤1000:=sm.d
 have few:=fun W (b:Below w.heap.size w W) => zNQ ad ds cd 228 #[] #[] fewB W (by omega) (hd.below b) (enters Tryz.func228 (by kernel_rfl) rfl) (fun x hx W1 _ al ca hR W' hW' => zJE x.payer x.lo x.hi al ca x.passed.length W' (by have:=sm.p x hx;omega))
 have dis:=fun (h1:1≤st) (h2:st≤1000) W (b:Below w.heap.size w W) => zNQ ad ds cd 226 #[.agg #[.int .i64 st,.int .i64 rate,.int .i64 keeps,.slice ad ds.length cd]] #[] (disB st) W (by omega) (hd.below b) (enters Tryz.func226 (by kernel_rfl) rfl) (fun x hx W1 _ al ca hR W' hW' => zC3 st rate keeps ad ds.length cd al ca x W' h1 h2 (hR.below hW') (sm.p x hx))
 have dis2:=fun (h1:¬ st < 1) (h2:¬ 7 < st) => dis (by omega) (by omega)
 clear dis
 go_enter Tryz.func175,Tryz.ntmps175
 go_wp2_with (first
  | (go_at_call 227;(with_reducible refine (few _ (by exact zzL)).mono ?_);rintro e w1 ⟨rfl,hb1⟩;obtain ⟨hc1,hf1,hz1⟩:=zAk hb1;(try simp at hz1);(try (have hy0:w.heap.size < w1.heap.size:=by omega));(try (have hy1:w.heap.size + 1 < w1.heap.size:=by omega));(try (have hy2:w.heap.size + 2 < w1.heap.size:=by omega));cases hF1:ds.all fewB)
  | (go_at_call 227;(with_reducible refine (dis2 (by assumption) (by assumption) _ (by exact zzL)).mono ?_);rintro e w1 ⟨rfl,hb1⟩;obtain ⟨hc1,hf1,hz1⟩:=zAk hb1;(try simp at hz1);(try (have hy0:w.heap.size < w1.heap.size:=by omega));(try (have hy1:w.heap.size + 1 < w1.heap.size:=by omega));(try (have hy2:w.heap.size + 2 < w1.heap.size:=by omega));cases hV1:ds.all (disB st))
  | (go_at_call 229;(with_reducible refine (zAm rate 0 20 _).mono ?_);rintro e w1 ⟨rfl,rfl⟩;cases hP1:inR rate 0 20)
  | (go_at_call 229;(with_reducible refine (zAm keeps 0 100 _).mono ?_);rintro e w1 ⟨rfl,rfl⟩;cases hK1:inR keeps 0 100))
 all_goals go_ret
 all_goals (refine ⟨?_,by exact zzL⟩)
 all_goals (first | (simp [zEW, *];done) | (simp [zEW, *];omega) | (exfalso;clear hd;simp_all;done) | go_ways)
open Go.Maps (Keyed)
def zAl (w:World) (b:Nat):Prop:=∃ es c,w.heap[b]?=some (.map es c)
structure Keep (bm:Nat) (w w' : World):Prop where
 grown:w.grownBy w' (some bm)
 old:zAl w bm
 new:zAl w' bm
theorem zAg {w w' : World} (hb:Below w.heap.size w w') (row:Option Nat):w.grownBy w' row:=⟨hb.os,hb.tape,hb.output,hb.size,fun k hk _ => hb.block k hk⟩
theorem zAl.below {w w' : World} {b:Nat} (h:zAl w b) (hb:Below w.heap.size w w'):zAl w' b:=by
 obtain ⟨es,c,hm⟩:=h
 exact ⟨es,c,(hb.block b (Array.getElem?_eq_some_iff.1 hm).1).trans hm⟩
theorem Keep.refl {bm:Nat} {w:World} (h:zAl w bm):Keep bm w w:=⟨World.grownBy.refl _ _,h,h⟩
theorem Keep.of_below {bm:Nat} {w w' : World} (h:zAl w bm) (hb:Below w.heap.size w w'):Keep bm w w':=⟨zAg hb _,h,h.below hb⟩
theorem Keep.trans {bm:Nat} {a b c:World} (h:Keep bm a b) (k:Keep bm b c):Keep bm a c:=⟨h.grown.trans k.grown,h.old,k.new⟩
theorem Keep.size {bm:Nat} {w w' : World} (h:Keep bm w w'):w.heap.size≤w'.heap.size:=h.grown.size
theorem Keep.below {bm:Nat} {a b c:World} (h:Keep bm a b) (hb:Below b.heap.size b c):Keep bm a c:=h.trans (.of_below h.new hb)
theorem zAl.ne {w:World} {b:Nat} (h:zAl w b) {a:Addr} {v:Value} (hc:w.cell? a=some v):a.block≠b:=by
 intro e
 obtain ⟨es,c,hm⟩:=h
 rw [← e] at hm
 simp [World.cell?,hm] at hc
theorem Keep.cell {bm:Nat} {w w' : World} (h:Keep bm w w') {a:Addr} {v:Value} (hc:w.cell? a=some v):w'.cell? a=some v :=
 h.grown.cell hc (fun e => h.old.ne hc (Option.some.inj e))
theorem _root_.Go.Proofs.YticjeianiahppaaGreatDoor.IntsAt.keepP {bm:Nat} {w w' : World} {a:Option Addr} {xs:List Int} (h:IntsAt w a xs) (k:Keep bm w w'):IntsAt w' a xs:=fun i hi =>
 let ⟨b,off,ha,hlt,hc⟩:=h i hi
 ⟨b,off,ha,Nat.lt_of_lt_of_le hlt k.size,k.cell hc⟩
theorem zDE.keepP {bm:Nat} {w w' : World} {a:Option Addr} {ds:List Dis} (h:zDE w a ds) (k:Keep bm w w'):zDE w' a ds:=fun i hi =>
 let ⟨b,off,al,c,ha,hlt,h0,h1,h2,h3,h4⟩:=h i hi
 ⟨b,off,al,c,ha,Nat.lt_of_lt_of_le hlt k.size,k.cell h0,k.cell h1,k.cell h2,k.cell h3,⟨h4.at_.keepP k,h4.le,h4.nil⟩⟩
theorem zFJ : laidOutB Tryz.prog=true:=by kernel_rfl
theorem zLm:(292:TypeId) < Tryz.prog.types.size:=of_decide_eq_true (by kernel_rfl)
theorem zKV:(match Tryz.prog.underlying 292 with | some (.array _ _) | some (.struct _) => true | _ => false)=true:=by kernel_rfl
theorem zCo:Keyed Tryz.prog 292:=Keyed.of_law (deep_law_laid zFJ (m:=4) (by omega) zLm (by kernel_rfl) zKV)
theorem zFf:Tryz.prog.cellsOf 292=2:=by kernel_rfl
theorem intCells:Tryz.prog.cellsOf 3=1:=by kernel_rfl
theorem zGt:Tryz.prog.keyType 292=true:=by kernel_rfl
theorem zEJ:2≤Tryz.prog.types.size:=of_decide_eq_true (by kernel_rfl)
theorem zFq (x:Int) (h0:0≤x) (h1:x≤1000000):(Lit.int .i64 x).wf=true:=by
 simp [Lit.wf,IntKind.min,IntKind.max,IntKind.bits,IntKind.signed]
 omega
theorem zCp (n:Nat) (x:Int) (h:(Lit.int .i64 x).wf=true):Tryz.prog.keyLits (n + 1) 3 [.int .i64 x]=some [.int .i64 x]:=by
 simp only [Program.keyLits,Tryz.underlying3]
 simp [h]
def zBw (d n:Int):Value:=.agg #[.int .i64 d,.int .i64 n]
theorem zIo (k:Nat) (d n:Int) (hd:0≤d∧d≤1000000) (hn:0≤n∧n≤1000000):∃ l,Tryz.prog.keyLits (k + 2) 292 (zBw d n).cells.toList=some l:=by
 have e0:=zCp k d (zFq d hd.1 hd.2)
 have e1:=zCp k n (zFq n hn.1 hn.2)
 refine ⟨[.int .i64 d,.int .i64 n],?_⟩
 unfold Program.keyLits
 rw [Tryz.underlying292]
 dsimp only
 rw [zFf]
 simp only [zBw,Value.cells]
 simp [intCells,e0,e1]
theorem zG2 (d n:Int) (hd:0≤d∧d≤1000000) (hn:0≤n∧n≤1000000):∃ kl,keyOf Tryz.prog 292 (zBw d n)=some kl:=by
 have hs:Tryz.prog.types.size + 1=(Tryz.prog.types.size - 1) + 2:=by have:=zEJ;omega
 obtain ⟨l,hl⟩:=zIo (Tryz.prog.types.size - 1) d n hd hn
 have hf:Value.formed Tryz.prog 292 (zBw d n)=true:=by
  simp [Value.formed,Tryz.underlying292,zBw,zFf]
 unfold keyOf
 rw [hs,zGt,hf,Tryz.underlying292]
 dsimp only
 rw [hl]
 exact ⟨_,rfl⟩
def zB7:Value→Option (DataW Unit × List MemPlace)
 | .slice none 0 0 => some (.agg [],[])
 | .slice (some ⟨b,o,none⟩) n c => some (.agg [.lit (.int .i64 b),.lit (.int .i64 o),.lit (.int .i64 n),.lit (.int .i64 c)],[])
 | _ => none
theorem zDy {v v' : Value} {z z' : DataW Unit × List MemPlace} (h:zB7 v=some z) (h' : zB7 v'=some z') (e:z.1=z'.1):v=v':=by
 unfold zB7 at h h'
 split at h <;> split at h' <;> simp at h h' <;> subst h <;> subst h' <;> simp at e ⊢
 ·omega
theorem zGJ {v:Value} {z:DataW Unit × List MemPlace} (h:zB7 v=some z):∃ a n c,v=.slice a n c:=by
 unfold zB7 at h
 split at h
 ·exact ⟨_,_,_,rfl⟩
 ·exact ⟨_,_,_,rfl⟩
 ·cases h
def zAo (w:World) (bm n:Nat) (F:Int→Int→List Int) (av:List (Option Nat)):Prop :=
 ∃ D:DataW Unit,w.ownsMap Tryz.prog 292 zB7 bm n D ∧
  ∀ d x kl,keyOf Tryz.prog 292 (zBw d x)=some kl→Go.Maps.has D kl=true →
   ∃ (b c:Nat),D.atKey kl (.agg [])=.agg [.lit (.int .i64 b),.lit (.int .i64 0),.lit (.int .i64 (F d x).length),.lit (.int .i64 c)]∧IntsAt w (some ⟨b,0,none⟩) (F d x)∧b < w.heap.size∧some b ∉ av
section
variable {w w' : World} {bm n:Nat} {F:Int→Int→List Int} {av:List (Option Nat)}
theorem zAo.isMap (h:zAo w bm n F av):zAl w bm:=by
 obtain ⟨D,⟨es,c,hm,_⟩,_⟩:=h
 exact ⟨es,c,hm⟩
theorem zAo.lt (h:zAo w bm n F av):bm < w.heap.size:=by
 obtain ⟨D,ho,_⟩:=h
 exact ho.lt
theorem zAo.mono {n' : Nat} (h:zAo w bm n F av) (hn:n≤n'):zAo w bm n' F av:=by
 obtain ⟨D,ho,hG⟩:=h
 exact ⟨D,ho.mono hn,hG⟩
theorem zAo.below (h:zAo w bm n F av) (hb:Below w.heap.size w w'):zAo w' bm n F av:=by
 obtain ⟨D,ho,hG⟩:=h
 refine ⟨D,ho.kept (zAg hb none) (by simp),fun d x kl h1 h2 => ?_⟩
 obtain ⟨b,c,h3,h4,h5,h6⟩:=hG d x kl h1 h2
 exact ⟨b,c,h3,h4.below hb,Nat.lt_of_lt_of_le h5 hb.size,h6⟩
theorem zAo.made (w:World) (F:Int→Int→List Int) (av:List (Option Nat)):zAo (w.alloc (.map #[] 0)) w.heap.size 0 F av :=
 ⟨.map [],World.ownsMap_made w _ _ _,fun d x kl _ h => by simp [Go.Maps.has] at h⟩
theorem zAo.avoid (h:zAo w bm n F av) {av' : List (Option Nat)} (ha:∀ q,some q ∈ av'→some q ∈ av∨w.heap.size≤q):zAo w bm n F av':=by
 obtain ⟨D,ho,hG⟩:=h
 refine ⟨D,ho,fun d x kl h1 h2 => ?_⟩
 obtain ⟨b,c,h3,h4,h5,h6⟩:=hG d x kl h1 h2
 exact ⟨b,c,h3,h4,h5,fun e => (ha b e).elim h6 (by omega)⟩
theorem zAo.grown (h:zAo w bm n F av) {r:Option Nat} (hg:w.grownBy w' r) (hr:r ∈ av) (hb:r≠some bm):zAo w' bm n F av:=by
 obtain ⟨D,ho,hG⟩:=h
 refine ⟨D,ho.kept hg (fun e => hb e.symm),fun d x kl h1 h2 => ?_⟩
 obtain ⟨b,c,h3,h4,h5,h6⟩:=hG d x kl h1 h2
 refine ⟨b,c,h3,fun k hk => ?_,Nat.lt_of_lt_of_le h5 hg.size,h6⟩
 obtain ⟨b',off,e,hb',hc⟩:=h4 k hk
 cases e
 exact ⟨_,_,rfl,Nat.lt_of_lt_of_le hb' hg.size,(World.cell?_of_block (hg.block _ hb' (fun e => by rw [e] at h6;exact h6 hr))).trans hc⟩
theorem zN1 (w:World):(zeroValue 22).run Tryz.prog w=.ok (.slice none 0 0) w:=by kernel_rfl
theorem zAo.look (h:zAo w bm n F av) (d x:Int) (hd:0≤d∧d≤1000000) (hx:0≤x∧x≤1000000) :
  ∃ (a:Option Addr) (m c:Nat) (b:Bool),(∀ e:Ext w,(Instr.lookup 287 (.map (some bm)) (zBw d x) true).run Tryz.prog e.to=.ok (.tuple #[.slice a m c,.bool b]) e.to) ∧
   (b=true→m=(F d x).length∧(∃ g,a=some ⟨g,0,none⟩)∧IntsAt w a (F d x)):=by
 obtain ⟨D,ho,hG⟩:=h
 obtain ⟨kl,hkl⟩:=zG2 d x hd hx
 have key:∀ e:Ext w,∃ v z,(Instr.lookup 287 (.map (some bm)) (zBw d x) true).run Tryz.prog e.to=.ok (.tuple #[v,.bool (Go.Maps.has D kl)]) e.to∧zB7 v=some z∧z.1=D.atKey kl (.agg []):=by
  intro e
  obtain ⟨v,ps,hrun,hv⟩:=World.ownsMap.look_ok (ho.kept (zAg e.below none) (by simp)) zCo Tryz.underlying287 (zN1 e.to) (zd:=.agg []) (zp:=[]) rfl hkl
  exact ⟨v,_,hrun,hv,rfl⟩
 obtain ⟨v,z,_,h2,h3⟩:=key ⟨w,Below.refl _ _⟩
 obtain ⟨a,m,c,rfl⟩:=zGJ h2
 refine ⟨a,m,c,Go.Maps.has D kl,fun e => ?_,fun hb => ?_⟩
 ·obtain ⟨v',z',h1',h2',h3'⟩:=key e
  obtain rfl:=zDy h2 h2' (h3.trans h3'.symm)
  exact h1'
 ·obtain ⟨g,c',e1,hI,_,_⟩:=hG d x kl hkl hb
  have hz:zB7 (.slice (some ⟨g,0,none⟩) (F d x).length c')=some (.agg [.lit (.int .i64 g),.lit (.int .i64 0),.lit (.int .i64 (F d x).length),.lit (.int .i64 c')],[]):=rfl
  have:=zDy h2 hz (h3.trans e1)
  simp at this
  obtain ⟨rfl,rfl,rfl⟩:=this
  exact ⟨rfl,⟨g,rfl⟩,hI⟩
end
theorem zEs {w:World} {ops:Array Oper} {rest:List Oper} {o:Oper} {a:Act} {Q:Exit→Act→World→Prop} {bm n:Nat} {F:Int→Int→List Int} {av:List (Option Nat)} (d x:Int) (hd:0≤d∧d≤1000000) (hx:0≤x∧x≤1000000)
  (hg:o.guard=none) (m k v:Operand) (hop:o.op=Op.mapUpdate 287 m k v) (hm:a.eval m=.map (some bm)) (hk:a.eval k=zBw d x) (g c:Nat) (hv:a.eval v=.slice (some ⟨g,0,none⟩) (F d x).length c)
  (hI:IntsAt w (some ⟨g,0,none⟩) (F d x)) (hgl:g < w.heap.size) (hga:some g ∉ av) (h:zAo w bm n F av) (hn:n < maxLen) (hK:∀ w',zAo w' bm (n + 1) F av→Keep bm w w'→wpList Tryz.prog ops Q rest (a.put o.dst undef) w') :
  wpList Tryz.prog ops Q (o :: rest) a w:=by
 have hmap:=h.isMap
 obtain ⟨D,ho,hG⟩:=h
 obtain ⟨kl,hkl⟩:=zG2 d x hd hx
 refine wpList_mapUpdate_own w hg m k v 287 hop 292 22 zCo Tryz.underlying287 zB7 bm n D hm ho hn (zBw d x) (.slice (some ⟨g,0,none⟩) (F d x).length c) kl hk hv hkl
  (.agg [.lit (.int .i64 g),.lit (.int .i64 0),.lit (.int .i64 (F d x).length),.lit (.int .i64 c)]) [] rfl fun w' ho' hgr => ?_
 have hmap' : zAl w' bm:=by
  obtain ⟨es,c,hm,_⟩:=ho'
  exact ⟨es,c,hm⟩
 have hkp:Keep bm w w':=⟨hgr,hmap,hmap'⟩
 refine hK w' ⟨_,ho',fun d' x' kl' hkl' hh => ?_⟩ hkp
 by_cases e:kl'=kl
 ·subst e
  have es:=zCo.inj hkl hkl'
  obtain ⟨rfl,rfl⟩:d=d'∧x=x':=by simpa [zBw] using es
  refine ⟨g,c,?_,hI.keepP hkp,Nat.lt_of_lt_of_le hgl hkp.size,hga⟩
  rw [Go.Maps.atKey_put_same ho.isMap (zCo.key hkl)]
 ·rw [Go.Maps.has_put_other e] at hh
  obtain ⟨b',c',h3,h4,h5,h6⟩:=hG d' x' kl' hkl' hh
  refine ⟨b',c',?_,h4.keepP hkp,Nat.lt_of_lt_of_le h5 hkp.size,h6⟩
  rw [Go.Maps.atKey_put_other e]
  exact h3
theorem zE5 (n:Nat) (hn:n≤1000):bits .and .u64 (n:Int) 4294967295=(n:Int):=by
 have h:=bits_and_u64_nat n 4294967295 (by omega) (by omega)
 have e:n &&& 4294967295=n % 4294967296:=Nat.and_two_pow_sub_one_eq_mod n 32
 rw [e,Nat.mod_eq_of_lt (by omega)] at h
 exact h
theorem zNr:bits .and .u64 1 4294967295=1:=zE5 1 (by omega)
theorem zMM:bits .and .u64 0 4294967295=0:=zE5 0 (by omega)
theorem zMI (n:Nat) (hn:n≤1000) (w:World) :
  Calls Tryz.prog 318 #[.int .u64 1,.int .u64 (n:Int)] w fun e w' => e=.returned (.tuple #[.int .u64 0,.int .u64 (n:Int)])∧w=w':=by
 have h1:=zE5 n hn
 have h2:(n:Int) / 4294967296=0:=by omega
 have h3:IntKind.u64.wrap (n:Int)=(n:Int):=by rw [IntKind.wrap_u64];omega
 have h4:IntKind.u64.wrap 0=0:=rfl
 go_enter Tryz.func318,Tryz.ntmps318
 go_wp2
 go_ret2
 refine ⟨?_,rfl⟩
 simp [h1,h2,h3,h4,zNr,zMM]
theorem zPL (n:Nat) (hn:n≤1000) (w:World) :
  Calls Tryz.prog 285 #[.int .u64 1,.int .u64 (n:Int)] w fun e w' => e=.returned (.tuple #[.int .u64 0,.int .u64 (n:Int)])∧w=w':=by
 go_enter Tryz.func285,Tryz.ntmps285
 go_wp2_with (go_at_call 318;refine (zMI n hn _).mono ?_;rintro e w1 ⟨rfl,rfl⟩)
 go_ret2
 exact ⟨rfl,rfl⟩
theorem zCq:(Tryz.prog.info? 3).map (fun i => (i.zero,i.size,i.bytes))=some (some (.int .i64 0),1,8):=by kernel_rfl
theorem zGM:Elem Tryz.prog 22 3 (.int .i64 0) 1 8:=⟨Tryz.underlying22,info_parts zCq,rfl,by decide⟩
def repV (x:Int) (m n:Nat):List Value:=List.replicate m (.int .i64 x) ++ List.replicate (n - m) (.int .i64 0)
theorem zJ9 (x:Int) {m n:Nat} (h:m≤n):(repV x m n).length=n:=by simp [repV];omega
theorem zMS (n:Nat):madeCells (Value.int .i64 0).cells n=(repV 0 0 n).toArray:=by
 apply Array.ext
 ·simp [size_madeCells,repV]
 ·intro i h1 h2
  simp [madeCells,repV,Value.cells,Nat.mod_one]
theorem zMR (n:Nat) (hn:n≤1000) (W:World):Sem.run Tryz.prog (Instr.makeSlice 22 (.int .i64 (n:Int)) (.int .i64 (n:Int))) W=.ok (.slice (some ⟨W.heap.size,0,none⟩) n n) (W.alloc (.cells (repV 0 0 n).toArray 3)):=by
 obtain ⟨i,hi,h0,h1,h2⟩:=info_parts zCq
 have:=run_make (P:=Tryz.prog) W 22 3 i (.int .i64 0) Tryz.underlying22 hi h0 .i64 .i64 (n:Int) (n:Int) (by omega) (Int.le_refl _) (by rw [h2];omega) (by omega)
 rw [h1] at this
 simpa [zMS] using this
theorem zFb (x:Int) {m k n:Nat} (h:m + k≤n):splice (repV x m n) m (List.replicate k (.int .i64 x))=repV x (m + k) n:=by
 unfold splice repV
 rw [List.take_append_of_le_length (by simp),List.take_of_length_le (by simp),List.length_replicate,List.drop_append,List.drop_of_length_le (by simp)]
 simp only [List.length_replicate,List.nil_append,List.drop_replicate]
 rw [← List.append_assoc,List.replicate_append_replicate]
 congr 2
 omega
theorem zKR (a:Option Addr) (x:Int) (c:Nat) (n:Nat) (w:World) (ha:IntsAt w a [x]) (hn1:1≤n) (hn:n≤1000) :
  Calls Tryz.prog 283 #[.slice a 1 c,.int .i64 (n:Int)] w fun e w' => (∃ g,e=.returned (.slice (some ⟨g,0,none⟩) n n)∧w.heap.size≤g∧Cells w' g (List.replicate n (.int .i64 x)).toArray 3)∧Below w.heap.size w w':=by
 obtain ⟨b,off,rfl,hb,hc⟩:=ha 0 (by simp)
 simp at hc
 have hcu:IntKind.u64.wrap (n:Int)=(n:Int):=by rw [IntKind.wrap_u64];omega
 have hci:IntKind.i64.wrap (n:Int)=(n:Int):=IntWalk.i64_in _ (by omega)
 have h9:¬ ((9223372036854775807:Int) < (n:Int)):=by omega
 have h0:¬ ((n:Int) < 0):=by omega
 have mk:=zMR n hn w
 have t1:Below w.heap.size w (w.alloc (.cells (repV 0 0 n).toArray 3)):=by exact zzL
 have C1:Cells (w.alloc (.cells (repV 0 0 n).toArray 3)) w.heap.size (repV 0 0 n).toArray 3:=Cells.new _ _ _
 have hc1:=zAA t1 hc
 have cp:=run_copy_row (P:=Tryz.prog) _ 22 22 3 3 w.heap.size 0 n n ⟨b,off,none⟩ 1 c (repV 0 0 n).toArray 3 [.int .i64 x] Tryz.underlying22 (by kernel_rfl) C1 (Nat.min_eq_left hn1).symm (fun j v hv => by
  have hj:j=0:=by
   have:=(List.getElem?_eq_some_iff.1 hv).1
   simp at this;omega
  subst hj
  simp at hv
  subst hv
  rw [addr_add];exact hc1) (by simp [zJ9];omega) (fun v hv => by simp at hv;subst hv;rfl)
 obtain ⟨W2,hW2⟩:∃ z:World,z=(w.alloc (.cells (repV 0 0 n).toArray 3)).setRow w.heap.size ((repV 0 0 n).toArray.toList.take 0 ++ [Value.int .i64 x] ++ (repV 0 0 n).toArray.toList.drop (0 + [Value.int .i64 x].length)).toArray:=⟨_,rfl⟩
 have hrep:(repV 0 0 n).toArray.toList.take 0 ++ [Value.int .i64 x] ++ (repV 0 0 n).toArray.toList.drop (0 + [Value.int .i64 x].length)=repV x 1 n:=by
  have:=zFb x (m:=0) (k:=1) (n:=n) (by omega)
  simpa [splice,repV] using this
 have t2:Below w.heap.size w W2:=by rw [hW2];exact below_setRow t1 (Nat.le_refl _) _
 have C2:Cells W2 w.heap.size (repV x 1 n).toArray 3:=by rw [hW2,hrep];exact setRow_heap _ _ _ _ _ _ C1
 rw [← hW2] at cp
 clear hW2 hrep C1 hc1
 go_enter Tryz.func283,Tryz.ntmps283
 go_wp2_with (go_at_call 285;refine (zPL n hn _).mono ?_;rintro e w1 ⟨rfl,rfl⟩)
 clear mk cp t1 hc ha hb hcu hci
 go_loopw [8] (fun v wr => ∃ m:Nat,1≤m∧m≤n∧v=.int .i64 m∧Cells wr w.heap.size (repV x m n).toArray 3∧Below w.heap.size w wr) (fun v _ => n - (intOf v).toNat)
 case atStart => exact ⟨1,Nat.le_refl _,hn1,rfl,C2,t2⟩
 case round =>
  obtain ⟨m,hm1,hm,rfl,C,hb⟩:=hrel
  by_cases hlt:m < n
  ·have hmI:(m:Int) < (n:Int):=by omega
   obtain ⟨k,hk⟩:∃ k,Nat.min m (n - m)=k:=⟨_,rfl⟩
   have hk1:k≤n - m∧k≤m∧1≤k:=by
    rw [← hk]
    refine ⟨Nat.min_le_right _ _,Nat.min_le_left _ _,?_⟩
    exact Nat.le_min.2 ⟨hm1,by omega⟩
   have hsl:=zFb x (m:=m) (k:=k) (n:=n) (by omega)
   have hs1:∀ (j:Nat) (v:Value),(List.replicate k (Value.int .i64 x))[j]?=some v→wr.cell? ((⟨w.heap.size,0,none⟩:Addr).add j)=some v:=fun j v hv => by
    have hj:j < k:=by have:=(List.getElem?_eq_some_iff.1 hv).1;simpa using this
    simp [hj] at hv
    subst hv
    rw [addr_add,Nat.zero_add,C.cell]
    have hjm:j < m:=by omega
    simp [repV,List.getElem?_append,hjm]
   have hwa:IntKind.i64.wrap ((m:Int) + (k:Int))=((m + k:Nat):Int):=by rw [IntWalk.i64_in _ (by omega)];omega
   have hkl:(List.replicate k (Value.int .i64 x)).length=Nat.min m (n - m):=by rw [hk];simp
   have hft:m + (List.replicate k (Value.int .i64 x)).length≤(repV x m n).length:=by rw [zJ9 x hm];simp;omega
   have h1c:∀ v ∈ List.replicate k (Value.int .i64 x),v.oneCell'=true:=fun v hv => by rw [List.eq_of_mem_replicate hv];rfl
   go_wp2
   go_region_law (refine step_copy_splice rfl (.tmp 41) (.tmp 44) 22 22 rfl 3 Tryz.underlying22 (by kernel_rfl) (some ⟨w.heap.size,m,none⟩) (some ⟨w.heap.size,0,none⟩) (n - m) (n - m) m n (by simp [Act.eval,Act.put];omega) (by simp [Act.eval,Act.put]) w.heap.size m (repV x m n) 3 C (List.replicate k (Value.int .i64 x)) hkl (fun _ => ⟨rfl,_,rfl,hs1⟩) hft h1c w.heap.size w (by repeat (first | exact hb | refine Below.drew ?_)) (Nat.le_refl _) ?_;intro w4 hg4 hb4)
   all_goals (rw [hsl] at hg4)
   all_goals go_wp2
   all_goals go_roundw
   case rel => exact ⟨m + k,by omega,by omega,by omega,hg4⟩
   case measure => simp [intOf];omega
  ·obtain rfl:m=n:=by omega
   have e:repV x m m=List.replicate m (.int .i64 x):=by simp [repV]
   rw [e] at C
   go_wp2
   go_ret
   exact ⟨⟨w.heap.size,rfl,Nat.le_refl _,C⟩,hb⟩
open Go.RowKit Go.Flow Go.Shelf
structure KX (n₀ bm:Nat) (W W' : World):Prop where
 size:W.heap.size≤W'.heap.size
 cell:∀ (a:Addr) (v:Value),a.block < n₀→a.block≠bm→W.cell? a=some v→W'.cell? a=some v
theorem KX.refl (n₀ bm:Nat) (W:World):KX n₀ bm W W:=⟨Nat.le_refl _,fun _ _ _ _ h => h⟩
theorem KX.trans {n₀ bm:Nat} {A B C:World} (h:KX n₀ bm A B) (k:KX n₀ bm B C):KX n₀ bm A C:=⟨Nat.le_trans h.size k.size,fun a v hl hn hc => k.cell a v hl hn (h.cell a v hl hn hc)⟩
theorem KX.below {n₀ bm:Nat} {W W' : World} (hb:Below W.heap.size W W'):KX n₀ bm W W':=⟨hb.size,fun _ _ _ _ h => zAA hb h⟩
theorem KX.putObj {n₀ bm:Nat} (W:World) (l:Nat) (o o' : Obj) (h:W.heap[l]?=some o) (ho:o.isCells=false):KX n₀ bm W (W.putObj l o') :=
 ⟨(grownBy_putObj' W l o').size,fun a v _ _ hc => cell_kept hc (grownBy_putObj' W l o') (fun r e => by cases e;exact ⟨o,h,ho⟩)⟩
theorem KX.setCell {n₀ bm:Nat} (W:World) (k:Nat) (v:Value):KX n₀ bm W (W.setCell ⟨bm,k,none⟩ v) :=
 ⟨by simp,fun a u _ hn hc => by rw [World.cell?_setCell_other _ _ _ _ (fun e => hn (by rw [← e]))];exact hc⟩
abbrev RV (p:Nat):={ i:Nat // i < p }
def encR (m:Nat) {p:Nat} (x:RV p):Array Value:=#[.int .i64 ((m:Int) - 1 - (x.1:Int))]
def rvs (p:Nat):(k:Nat)→k≤p→List (RV p)
 | 0,_ => []
 | k + 1,h => rvs p k (by omega) ++ [⟨k,by omega⟩]
theorem zIf (p:Nat):∀ (k:Nat) (h:k≤p),(rvs p k h).map (·.1)=List.range k
 | 0,_ => rfl
 | k + 1,h => by simp only [rvs,List.map_append,zIf p k (by omega),List.range_succ];rfl
theorem zPF (p:Nat) (k:Nat) (h:k≤p):(rvs p k h).length=k:=by
 have:=congrArg List.length (zIf p k h)
 simpa using this
attribute [local go_sem] Oper.semAt_some
theorem zHi (n:Nat) (hn:2≤n) (n₀ bm P0 P1:Nat) (p m:Nat) (hp:p≤1000) (hm:m≤1000) (w:World) (h0:w.cell? ⟨P0,0,none⟩=some (.int .i64 (p:Int))) (h1:w.cell? ⟨P1,0,none⟩=some (.int .i64 (m:Int))) (p0:P0 < n₀) (p1:P1 < n₀) (pb0:P0≠bm) (pb1:P1≠bm) :
  SeqStopsK Fence.wide n Tryz.prog 316 #[.pointer (some ⟨P0,0,none⟩),.pointer (some ⟨P1,0,none⟩)] (encR m (p:=p)) (KX n₀ bm) (fun xs => xs=rvs p p (Nat.le_refl _)) (fun _ => True) p w:=fun l J Jx W hW hJ hJx hY hs0 => by
 have h0':=zAA hW h0
 have h1':=zAA hW h1
 clear hW h0 h1
 have h1n:1≤n:=by omega
 refine callsIn_of_wp Tryz.func316 rfl trivial ?_ rfl
 simp only [Tryz.ntmps316,List.size_toArray,List.length_cons,List.length_nil,Nat.reduceAdd,Nat.reduceSub,Array.replicate_succ,Array.replicate_zero,List.push_toArray,List.append_toArray,List.nil_append,List.cons_append]
 gi_wp2
 gi_loopw [4,6] (fun _ i wr => ∃ (k:Nat) (hk:k≤p),i=.int .i64 k∧J (rvs p k hk) wr∧KX n₀ bm W wr) (fun _ i _ => p - (intOf i).toNat)
 case atStart => exact ⟨0,by omega,rfl,hs0,KX.refl _ _ _⟩
 case round =>
  obtain ⟨k,hk,rfl,hJ1,hck⟩:=hrel
  have q1:=hck.cell _ _ p1 pb1 h1'
  have l1:=zAK q1
  by_cases hlt:k < p
  ·have hkI:(k:Int) < (p:Int):=by omega
   have w1:IntKind.i64.wrap ((m:Int) - 1)=(m:Int) - 1:=IntWalk.i64_in _ (by omega)
   have w2:IntKind.i64.wrap ((m:Int) - 1 - (k:Int))=(m:Int) - 1 - (k:Int):=IntWalk.i64_in _ (by omega)
   have Hs:Hid (rvs p (k + 1) (by omega)=rvs p k hk ++ [⟨k,by omega⟩]):=Lib.hid rfl
   obtain ⟨x,hx⟩:∃ x:RV p,x=⟨k,by omega⟩:=⟨_,rfl⟩
   have hxk:x.1=k:=by rw [hx]
   rw [← hx] at Hs
   clear hx
   have hlen:=zPF p k hk
   obtain ⟨fn,tmps,assign,body,hy,hR⟩:=hY (rvs p k hk) x wr hJ1 (by omega)
   dsimp only [encR] at hy
   rw [hxk] at hy
   gi_wp2
   refine hR.mono ?_
   rintro e w7 (⟨rfl,hJ7,hk7⟩ | ⟨rfl,hJx7⟩)
   ·gi_wp2
    go_roundw
    case rel => exact ⟨k + 1,by omega,by go_num,by rw [Hs.out];exact hJ7,hck.trans hk7⟩
    case measure => simp [intOf];omega
   ·gi_wp2
    refine bodyPost_ret (results_none rfl _ _ _) rfl ?_
    exact ⟨⟨_,rfl⟩,.inr ⟨_,trivial,hJx7⟩⟩
  ·obtain rfl:k=p:=by omega
   gi_wp2
   go_end0
   exact ⟨⟨_,rfl⟩,.inl ⟨_,rfl,hJ1⟩⟩
theorem zKT (p m:Int) (w:World) :
  Calls Tryz.prog 284 #[.int .i64 p,.int .i64 m] w fun e w' => e=.returned (.func (.func 316) #[] #[.pointer (some ⟨w.heap.size,0,none⟩),.pointer (some ⟨w.heap.size + 1,0,none⟩)])∧(w.alloc (.cells #[.int .i64 p] 3)).alloc (.cells #[.int .i64 m] 3)=w':=by
 go_enter Tryz.func284,Tryz.ntmps284
 go_wp2
 go_ret
 exact ⟨rfl,rfl⟩
end Go.Proofs.YticjeianiahppaaGreatDoor.Pay
namespace Go.Proofs.YticjeianiahppaaGreatDoor.Pay
open Go.RowKit Go.Flow Go.Shelf
theorem zD8 (motive:Act→Prop) {A:Act} (h:A.tmps.size=84) (hm:∀ (ds:List Deferred) (x0 x1 x2 x3 x4 x5 x6 x7 x8 x9 x10 x11 x12 x13 x14 x15 x16 x17 x18 x19 x20 x21 x22 x23 x24 x25 x26 x27 x28 x29 x30 x31 x32 x33 x34 x35 x36 x37 x38 x39 x40 x41 x42 x43 x44 x45 x46 x47 x48 x49 x50 x51 x52 x53 x54 x55 x56 x57 x58 x59 x60 x61 x62 x63 x64 x65 x66 x67 x68 x69 x70 x71 x72 x73 x74 x75 x76 x77 x78 x79 x80 x81 x82 x83:Value),motive { tmps:=#[x0,x1,x2,x3,x4,x5,x6,x7,x8,x9,x10,x11,x12,x13,x14,x15,x16,x17,x18,x19,x20,x21,x22,x23,x24,x25,x26,x27,x28,x29,x30,x31,x32,x33,x34,x35,x36,x37,x38,x39,x40,x41,x42,x43,x44,x45,x46,x47,x48,x49,x50,x51,x52,x53,x54,x55,x56,x57,x58,x59,x60,x61,x62,x63,x64,x65,x66,x67,x68,x69,x70,x71,x72,x73,x74,x75,x76,x77,x78,x79,x80,x81,x82,x83],defers:=ds }):motive A:=by
 obtain ⟨⟨l⟩,ds⟩:=A
 replace h:l.length=84:=h
 obtain ⟨x0,l,rfl⟩:=zzK h
 replace h:l.length=83:=by simpa using h
 obtain ⟨x1,l,rfl⟩:=zzK h
 replace h:l.length=82:=by simpa using h
 obtain ⟨x2,l,rfl⟩:=zzK h
 replace h:l.length=81:=by simpa using h
 obtain ⟨x3,l,rfl⟩:=zzK h
 replace h:l.length=80:=by simpa using h
 obtain ⟨x4,l,rfl⟩:=zzK h
 replace h:l.length=79:=by simpa using h
 obtain ⟨x5,l,rfl⟩:=zzK h
 replace h:l.length=78:=by simpa using h
 obtain ⟨x6,l,rfl⟩:=zzK h
 replace h:l.length=77:=by simpa using h
 obtain ⟨x7,l,rfl⟩:=zzK h
 replace h:l.length=76:=by simpa using h
 obtain ⟨x8,l,rfl⟩:=zzK h
 replace h:l.length=75:=by simpa using h
 obtain ⟨x9,l,rfl⟩:=zzK h
 replace h:l.length=74:=by simpa using h
 obtain ⟨x10,l,rfl⟩:=zzK h
 replace h:l.length=73:=by simpa using h
 obtain ⟨x11,l,rfl⟩:=zzK h
 replace h:l.length=72:=by simpa using h
 obtain ⟨x12,l,rfl⟩:=zzK h
 replace h:l.length=71:=by simpa using h
 obtain ⟨x13,l,rfl⟩:=zzK h
 replace h:l.length=70:=by simpa using h
 obtain ⟨x14,l,rfl⟩:=zzK h
 replace h:l.length=69:=by simpa using h
 obtain ⟨x15,l,rfl⟩:=zzK h
 replace h:l.length=68:=by simpa using h
 obtain ⟨x16,l,rfl⟩:=zzK h
 replace h:l.length=67:=by simpa using h
 obtain ⟨x17,l,rfl⟩:=zzK h
 replace h:l.length=66:=by simpa using h
 obtain ⟨x18,l,rfl⟩:=zzK h
 replace h:l.length=65:=by simpa using h
 obtain ⟨x19,l,rfl⟩:=zzK h
 replace h:l.length=64:=by simpa using h
 obtain ⟨x20,l,rfl⟩:=zzK h
 replace h:l.length=63:=by simpa using h
 obtain ⟨x21,l,rfl⟩:=zzK h
 replace h:l.length=62:=by simpa using h
 obtain ⟨x22,l,rfl⟩:=zzK h
 replace h:l.length=61:=by simpa using h
 obtain ⟨x23,l,rfl⟩:=zzK h
 replace h:l.length=60:=by simpa using h
 obtain ⟨x24,l,rfl⟩:=zzK h
 replace h:l.length=59:=by simpa using h
 obtain ⟨x25,l,rfl⟩:=zzK h
 replace h:l.length=58:=by simpa using h
 obtain ⟨x26,l,rfl⟩:=zzK h
 replace h:l.length=57:=by simpa using h
 obtain ⟨x27,l,rfl⟩:=zzK h
 replace h:l.length=56:=by simpa using h
 obtain ⟨x28,l,rfl⟩:=zzK h
 replace h:l.length=55:=by simpa using h
 obtain ⟨x29,l,rfl⟩:=zzK h
 replace h:l.length=54:=by simpa using h
 obtain ⟨x30,l,rfl⟩:=zzK h
 replace h:l.length=53:=by simpa using h
 obtain ⟨x31,l,rfl⟩:=zzK h
 replace h:l.length=52:=by simpa using h
 obtain ⟨x32,l,rfl⟩:=zzK h
 replace h:l.length=51:=by simpa using h
 obtain ⟨x33,l,rfl⟩:=zzK h
 replace h:l.length=50:=by simpa using h
 obtain ⟨x34,l,rfl⟩:=zzK h
 replace h:l.length=49:=by simpa using h
 obtain ⟨x35,l,rfl⟩:=zzK h
 replace h:l.length=48:=by simpa using h
 obtain ⟨x36,l,rfl⟩:=zzK h
 replace h:l.length=47:=by simpa using h
 obtain ⟨x37,l,rfl⟩:=zzK h
 replace h:l.length=46:=by simpa using h
 obtain ⟨x38,l,rfl⟩:=zzK h
 replace h:l.length=45:=by simpa using h
 obtain ⟨x39,l,rfl⟩:=zzK h
 replace h:l.length=44:=by simpa using h
 obtain ⟨x40,l,rfl⟩:=zzK h
 replace h:l.length=43:=by simpa using h
 obtain ⟨x41,l,rfl⟩:=zzK h
 replace h:l.length=42:=by simpa using h
 obtain ⟨x42,l,rfl⟩:=zzK h
 replace h:l.length=41:=by simpa using h
 obtain ⟨x43,l,rfl⟩:=zzK h
 replace h:l.length=40:=by simpa using h
 obtain ⟨x44,l,rfl⟩:=zzK h
 replace h:l.length=39:=by simpa using h
 obtain ⟨x45,l,rfl⟩:=zzK h
 replace h:l.length=38:=by simpa using h
 obtain ⟨x46,l,rfl⟩:=zzK h
 replace h:l.length=37:=by simpa using h
 obtain ⟨x47,l,rfl⟩:=zzK h
 replace h:l.length=36:=by simpa using h
 obtain ⟨x48,l,rfl⟩:=zzK h
 replace h:l.length=35:=by simpa using h
 obtain ⟨x49,l,rfl⟩:=zzK h
 replace h:l.length=34:=by simpa using h
 obtain ⟨x50,l,rfl⟩:=zzK h
 replace h:l.length=33:=by simpa using h
 obtain ⟨x51,l,rfl⟩:=zzK h
 replace h:l.length=32:=by simpa using h
 obtain ⟨x52,l,rfl⟩:=zzK h
 replace h:l.length=31:=by simpa using h
 obtain ⟨x53,l,rfl⟩:=zzK h
 replace h:l.length=30:=by simpa using h
 obtain ⟨x54,l,rfl⟩:=zzK h
 replace h:l.length=29:=by simpa using h
 obtain ⟨x55,l,rfl⟩:=zzK h
 replace h:l.length=28:=by simpa using h
 obtain ⟨x56,l,rfl⟩:=zzK h
 replace h:l.length=27:=by simpa using h
 obtain ⟨x57,l,rfl⟩:=zzK h
 replace h:l.length=26:=by simpa using h
 obtain ⟨x58,l,rfl⟩:=zzK h
 replace h:l.length=25:=by simpa using h
 obtain ⟨x59,l,rfl⟩:=zzK h
 replace h:l.length=24:=by simpa using h
 obtain ⟨x60,l,rfl⟩:=zzK h
 replace h:l.length=23:=by simpa using h
 obtain ⟨x61,l,rfl⟩:=zzK h
 replace h:l.length=22:=by simpa using h
 obtain ⟨x62,l,rfl⟩:=zzK h
 replace h:l.length=21:=by simpa using h
 obtain ⟨x63,l,rfl⟩:=zzK h
 replace h:l.length=20:=by simpa using h
 obtain ⟨x64,l,rfl⟩:=zzK h
 replace h:l.length=19:=by simpa using h
 obtain ⟨x65,l,rfl⟩:=zzK h
 replace h:l.length=18:=by simpa using h
 obtain ⟨x66,l,rfl⟩:=zzK h
 replace h:l.length=17:=by simpa using h
 obtain ⟨x67,l,rfl⟩:=zzK h
 replace h:l.length=16:=by simpa using h
 obtain ⟨x68,l,rfl⟩:=zzK h
 replace h:l.length=15:=by simpa using h
 obtain ⟨x69,l,rfl⟩:=zzK h
 replace h:l.length=14:=by simpa using h
 obtain ⟨x70,l,rfl⟩:=zzK h
 replace h:l.length=13:=by simpa using h
 obtain ⟨x71,l,rfl⟩:=zzK h
 replace h:l.length=12:=by simpa using h
 obtain ⟨x72,l,rfl⟩:=zzK h
 replace h:l.length=11:=by simpa using h
 obtain ⟨x73,l,rfl⟩:=zzK h
 replace h:l.length=10:=by simpa using h
 obtain ⟨x74,l,rfl⟩:=zzK h
 replace h:l.length=9:=by simpa using h
 obtain ⟨x75,l,rfl⟩:=zzK h
 replace h:l.length=8:=by simpa using h
 obtain ⟨x76,l,rfl⟩:=zzK h
 replace h:l.length=7:=by simpa using h
 obtain ⟨x77,l,rfl⟩:=zzK h
 replace h:l.length=6:=by simpa using h
 obtain ⟨x78,l,rfl⟩:=zzK h
 replace h:l.length=5:=by simpa using h
 obtain ⟨x79,l,rfl⟩:=zzK h
 replace h:l.length=4:=by simpa using h
 obtain ⟨x80,l,rfl⟩:=zzK h
 replace h:l.length=3:=by simpa using h
 obtain ⟨x81,l,rfl⟩:=zzK h
 replace h:l.length=2:=by simpa using h
 obtain ⟨x82,l,rfl⟩:=zzK h
 replace h:l.length=1:=by simpa using h
 obtain ⟨x83,l,rfl⟩:=zzK h
 replace h:l.length=0:=by simpa using h
 obtain rfl:=List.eq_nil_of_length_eq_zero h
 exact hm ds x0 x1 x2 x3 x4 x5 x6 x7 x8 x9 x10 x11 x12 x13 x14 x15 x16 x17 x18 x19 x20 x21 x22 x23 x24 x25 x26 x27 x28 x29 x30 x31 x32 x33 x34 x35 x36 x37 x38 x39 x40 x41 x42 x43 x44 x45 x46 x47 x48 x49 x50 x51 x52 x53 x54 x55 x56 x57 x58 x59 x60 x61 x62 x63 x64 x65 x66 x67 x68 x69 x70 x71 x72 x73 x74 x75 x76 x77 x78 x79 x80 x81 x82 x83
structure WkAt (w:World) (B bm:Nat) (st rate keeps:Int) (ad:Option Addr) (nd cd:Nat):Prop where
 c0:w.cell? ⟨B,0,none⟩=some (.int .i64 st)
 c1:w.cell? ⟨B,1,none⟩=some (.int .i64 rate)
 c2:w.cell? ⟨B,2,none⟩=some (.int .i64 keeps)
 c3:w.cell? ⟨B,3,none⟩=some (.slice ad nd cd)
 c4:w.cell? ⟨B,4,none⟩=some (.map (some bm))
section
variable {w w' : World} {B bm:Nat} {st rate keeps:Int} {ad:Option Addr} {nd cd:Nat}
theorem WkAt.below (h:WkAt w B bm st rate keeps ad nd cd) (hb:Below w.heap.size w w'):WkAt w' B bm st rate keeps ad nd cd:=⟨zAA hb h.c0,zAA hb h.c1,zAA hb h.c2,zAA hb h.c3,zAA hb h.c4⟩
theorem WkAt.keepP {b:Nat} (h:WkAt w B bm st rate keeps ad nd cd) (k:Keep b w w'):WkAt w' B bm st rate keeps ad nd cd:=⟨k.cell h.c0,k.cell h.c1,k.cell h.c2,k.cell h.c3,k.cell h.c4⟩
theorem WkAt.lt (h:WkAt w B bm st rate keeps ad nd cd):B < w.heap.size:=zAK h.c0
end
def shR (base kp:Int) (k:Nat) (pre:List Nat):List Int:=(List.range k).map fun (i:Nat) => base + (if i=0 then kp else 0) + ((pre.count (k - 1 - i):Nat):Int)
def shA (base kp:Int) (k:Nat) (pre:List Nat):Array Value:=((shR base kp k pre).map (Value.int .i64)).toArray
theorem zNh (base kp:Int) {k:Nat} (hk:1≤k):(List.replicate k (Value.int .i64 base)).toArray.setIfInBounds 0 (.int .i64 (base + kp))=shA base kp k []:=by
 apply Array.ext
 ·simp [shA,shR]
 ·intro i h1 h2
  simp only [shA,shR,zzG,List.getElem_toArray,List.getElem_set,List.getElem_map,List.getElem_range,List.getElem_replicate,List.count_nil]
  by_cases h:i=0
  ·subst h;simp
  ·rw [if_neg (fun e => h e.symm),if_neg h];simp
theorem zPE (base kp:Int) {k:Nat} (pre:List Nat) {x:Nat} (hx:x < k):(shA base kp k pre)[k - 1 - x]?=some (.int .i64 (base + (if k - 1 - x=0 then kp else 0) + (pre.count x:Nat))):=by
 have h:k - 1 - x < k:=by omega
 simp only [shA,shR,zzH,List.getElem?_map,List.getElem?_range h,Option.map_some]
 rw [show k - 1 - (k - 1 - x)=x by omega]
theorem zNi (base kp:Int) {k:Nat} (pre:List Nat) {x:Nat} (hx:x < k):(shA base kp k pre).setIfInBounds (k - 1 - x) (.int .i64 (base + (if k - 1 - x=0 then kp else 0) + (pre.count x:Nat) + 1))=shA base kp k (pre ++ [x]):=by
 apply Array.ext
 ·simp [shA,shR]
 ·intro i h1 h2
  have hi:i < k:=by simpa [shA,shR] using h2
  simp only [shA,shR,zzG,List.getElem_toArray,List.getElem_set,List.getElem_map,List.getElem_range,List.count_append,List.count_singleton]
  by_cases h:k - 1 - x=i
  ·rw [if_pos h,← h,show k - 1 - (k - 1 - x)=x by omega]
   simp;omega
  ·rw [if_neg h]
   have hne:¬ (x=k - 1 - i):=by omega
   simp [hne]
theorem zJI (r j:Nat):(List.range r).count j=if j < r then 1 else 0:=by
 induction r with
 | zero => simp
 | succ r ih =>
  rw [List.range_succ,List.count_append,ih,List.count_singleton]
  by_cases h:r=j
  ·subst h;simp
  ·by_cases h2:j < r
   ·simp [h,h2];omega
   ·simp [h,h2];omega
theorem zNg (rate keeps:Int) {k r:Nat} {n base kp:Int} (h1:zKf rate keeps n=kp) (h2:(n * rate - kp) / (k:Int)=base) (h3:(n * rate - kp) % (k:Int)=(r:Int)):shR base kp k (List.range r)=zAf rate keeps k n:=by
 unfold shR zAf
 rw [h1,h2,h3]
 refine List.map_congr_left fun i hi => ?_
 have hi:i < k:=by simpa using hi
 rw [zJI]
 by_cases h:k - 1 - i < r
 ·rw [if_pos h,if_pos (show (k:Int) - (r:Int)≤(i:Int) by omega)];rfl
 ·rw [if_neg h,if_neg (show ¬ ((k:Int) - (r:Int)≤(i:Int)) by omega)];rfl
theorem zAo.put {w:World} {bm n D:Nat} {F:Int→Int→List Int} {av:List (Option Nat)} (h:zAo w bm n F av) {o:Obj} (hD:w.heap[D]?=some o) (ho:o.isCells=false) (hne:D≠bm) (o' : Obj):zAo (w.putObj D o') bm n F av:=by
 obtain ⟨M,hM,hG⟩:=h
 refine ⟨M,hM.kept (grownBy_putObj' w D o') (by simpa using fun e => hne e.symm),fun d x kl h1 h2 => ?_⟩
 obtain ⟨b,c,h3,h4,h5,h6⟩:=hG d x kl h1 h2
 refine ⟨b,c,h3,fun k hk => ?_,Nat.lt_of_lt_of_le h5 (grownBy_putObj' w D o').size,h6⟩
 obtain ⟨b',off,e,hb,hc⟩:=h4 k hk
 exact ⟨b',off,e,Nat.lt_of_lt_of_le hb (grownBy_putObj' w D o').size,cell_kept hc (grownBy_putObj' w D o') (fun r e => by cases e;exact ⟨o,hD,ho⟩)⟩
def shF (rate keeps:Int) (ds:List Dis) (d x:Int):List Int:=zAf rate keeps (ds.getD d.toNat ⟨0,0,0,[]⟩).passed.length x
theorem zPA (st rate keeps:Int) (ds:List Dis) (ad:Option Addr) (cd:Nat) (w:World) (hd:zDE w ad ds) (sm:AccSmall ⟨st,rate,keeps,ds⟩) (h0:zEW ⟨st,rate,keeps,ds⟩=0) :
  Calls Tryz.prog 117 #[.agg #[.int .i64 st,.int .i64 rate,.int .i64 keeps,.slice ad ds.length cd]] w fun e w' => (∃ B bm,e=.returned (.tuple #[.pointer (some ⟨B,0,none⟩),.int .i64 0])∧w.heap.size≤B∧w.heap.size≤bm∧WkAt w' B bm st rate keeps ad ds.length cd∧zAo w' bm 0 (shF rate keeps ds) [])∧Below w.heap.size w w':=by
 have chk:=fun W (b:Below w.heap.size w W) => zFD st rate keeps ds ad cd W (hd.below b) sm
 rw [h0] at chk
 have mk:∀ W,Sem.run Tryz.prog (Instr.makeMap 287 none) W=.ok (.map (some W.heap.size)) (W.alloc (.map #[] 0)):=fun W => by kernel_rfl
 have CA:=Cells.new w #[.int .i64 st,.int .i64 rate,.int .i64 keeps,.slice ad ds.length cd] 55
 go_enter Tryz.func117,Tryz.ntmps117
 go_wp2_with fail
 go_at_call 175
 refine (chk _ (by exact zzL)).mono ?_
 rintro e w1 ⟨rfl,b1⟩
 have t1:Below w.heap.size w w1:=by exact zzL
 have C1:=CA.below b1
 have q0:=C1.cell 0
 have q1:=C1.cell 1
 have q2:=C1.cell 2
 have q3:=C1.cell 3
 have lq:=C1.lt
 simp at q0 q1 q2 q3
 clear chk CA
 go_wp2
 go_ret2
 have M1:=zAo.made w1 (shF rate keeps ds) []
 have CB:=Cells.new' (w1.alloc (.map #[] 0)) #[.int .i64 st,.int .i64 rate,.int .i64 keeps,.slice ad ds.length cd,.map (some w1.heap.size)] 289 (w1.heap.size + 1) (by simp)
 exact ⟨⟨w1.heap.size + 1,w1.heap.size,rfl,by have:=t1.size;omega,t1.size,⟨CB.cell 0,CB.cell 1,CB.cell 2,CB.cell 3,CB.cell 4⟩,M1.below ((Below.refl _ _).alloc (Nat.le_refl _) _)⟩,(t1.alloc t1.size _).alloc (by have:=t1.size;simp;omega) _⟩
attribute [local go_sem] Oper.semAt_some
section
variable (B bm:Nat) (st rate keeps:Int) (ds:List Dis) (ad:Option Addr) (cd:Nat) (i:Nat) (x:Int) (n:Nat) (w:World) (hw:WkAt w B bm st rate keeps ad ds.length cd) (hd:zDE w ad ds) (av:List (Option Nat)) (hav:∀ q,some q ∈ av→q < w.heap.size) (hM:zAo w bm n (shF rate keeps ds) av) (hi:i < ds.length) (hr:0≤rate∧rate≤20) (hk:0≤keeps∧keeps≤100) (hx:1≤x∧x≤200) (hp:1≤ds[i].passed.length∧ds[i].passed.length≤5) (hl:ds.length≤1000) (hn:n < maxLen)
include hav hw hd hM hi hr hk hx hp hl hn
theorem zKO:Calls Tryz.prog 231 #[.pointer (some ⟨B,0,none⟩),.agg #[.int .i64 (i:Int),.int .i64 x]] w fun e w' => (∃ g c,e=.returned (.slice (some ⟨g,0,none⟩) ds[i].passed.length c)∧IntsAt w' (some ⟨g,0,none⟩) (zAf rate keeps ds[i].passed.length x))∧Keep bm w w'∧zAo w' bm (n + 1) (shF rate keeps ds) av:=by
 have hFe:shF rate keeps ds (i:Int) x=zAf rate keeps ds[i].passed.length x:=by simp [shF,hi]
 obtain ⟨W1,hW1⟩:∃ z:World,z=w.alloc (.cells #[.int .i64 (i:Int),.int .i64 x] 292):=⟨_,rfl⟩
 have t1:Below w.heap.size w W1:=by rw [hW1];exact zzL
 have CP:Cells W1 w.heap.size #[.int .i64 (i:Int),.int .i64 x] 292:=by rw [hW1];exact Cells.new _ _ _
 have M1:=hM.below t1
 have K1:=hw.below t1
 obtain ⟨a0,m0,c0,hit,hlk,hG⟩:=M1.look (i:Int) x (by omega) (by omega)
 simp only [zBw] at hlk
 have p0:=CP.cell 0
 have p1:=CP.cell 1
 have lp:=CP.lt
 simp at p0 p1
 have q4:=K1.c4
 have lB:=K1.lt
 have S0:∀ X,Below W1.heap.size W1 X→X.cell? ⟨B,4,none⟩=some (.map (some bm))∧X.cell? ⟨w.heap.size,0,none⟩=some (.int .i64 (i:Int))∧X.cell? ⟨w.heap.size,1,none⟩=some (.int .i64 x)∧Sem.run Tryz.prog (Instr.lookup 287 (.map (some bm)) (.agg #[.int .i64 (i:Int),.int .i64 x]) true) X=.ok (.tuple #[.slice a0 m0 c0,.bool hit]) X:=fun X h => ⟨zAA h q4,zAA h p0,zAA h p1,hlk ⟨X,h⟩⟩
 have LK:=fun X (h:Below W1.heap.size W1 X) => (S0 X h).2.2.2
 cases hit
 ·have hP0:0≤x * rate:=Int.mul_nonneg (by omega) hr.1
  have hP1:x * rate≤4000:=Int.le_trans (Int.mul_le_mul hx.2 hr.2 hr.1 (by omega)) (by decide)
  obtain ⟨P,hPe⟩:∃ P,x * rate=P:=⟨_,rfl⟩
  rw [hPe] at hP0 hP1
  have hY0:0≤P * keeps:=Int.mul_nonneg hP0 hk.1
  have hY1:P * keeps≤P * 100:=Int.mul_le_mul_of_nonneg_left hk.2 hP0
  obtain ⟨Y,hYe⟩:∃ Y,P * keeps=Y:=⟨_,rfl⟩
  rw [hYe] at hY0 hY1
  obtain ⟨kp,hkp⟩:∃ kp,Y / 100=kp:=⟨_,rfl⟩
  have hkp1:0≤kp∧kp≤P:=by omega
  obtain ⟨k,hke⟩:∃ k,ds[i].passed.length=k:=⟨_,rfl⟩
  rw [hke] at hp
  obtain ⟨base,hba⟩:∃ b,(P - kp) / (k:Int)=b:=⟨_,rfl⟩
  obtain ⟨rem,hre⟩:∃ b,(P - kp) % (k:Int)=b:=⟨_,rfl⟩
  have hba1:0≤base∧base≤4000:=by
   rw [← hba]
   exact ⟨Int.ediv_nonneg (by omega) (by omega),Int.le_trans (Int.ediv_le_self _ (by omega)) (by omega)⟩
  have hre1:0≤rem∧rem < k:=by
   rw [← hre]
   exact ⟨Int.emod_nonneg _ (by omega),Int.emod_lt_of_pos _ (by omega)⟩
  refine (callsIn_wide (n:=5)).1 ?_
  refine callsIn_of_wp_marks Tryz.func231 rfl trivial ?_ rfl
  simp only [Tryz.ntmps231,List.size_toArray,List.length_cons,List.length_nil,Nat.reduceAdd,Nat.reduceSub,Array.replicate_succ,Array.replicate_zero,List.push_toArray,List.append_toArray,List.nil_append,List.cons_append]
  refine wpIn_wide.2 ?_
  go_wp2
  rw [← hW1]
  clear hW1 hG
  go_region_held3 (fun w' => w'.cell? ⟨B,4,none⟩=some (.map (some bm))∧w'.cell? ⟨w.heap.size,0,none⟩=some (.int .i64 (i:Int))∧w'.cell? ⟨w.heap.size,1,none⟩=some (.int .i64 x)∧Sem.run Tryz.prog (Instr.lookup 287 (.map (some bm)) (.agg #[.int .i64 (i:Int),.int .i64 x]) true) w'=.ok (.tuple #[.slice a0 m0 c0,.bool false]) w')
   (first
    | exact S0 _ ((Below.refl _ _).drew)
    | exact S0 _ (((Below.refl _ _).drew).alloc (by first | exact Nat.le_refl _ | (simp;done)) _)
    | exact S0 _ (by exact zzL))
   (fail)
  clear S0 LK hlk
  all_goals
   obtain ⟨W2,hW2⟩:∃ z:World,z=(W1.alloc (.cells #[.slice a0 m0 c0] 22)).drew:=⟨_,rfl⟩
   have b2:Below W1.heap.size W1 W2:=by rw [hW2];exact ((Below.refl _ _).alloc (Nat.le_refl _) _).drew
   have C5:Cells W2 W1.heap.size #[.slice a0 m0 c0] 22:=by rw [hW2];exact Cells.new W1 _ _
   rw [← hW2]
   clear hW2
   have t2:=t1.trans (b2.mono t1.size)
   replace p0:=zAA b2 p0
   replace p1:=zAA b2 p1
   replace lp:=Nat.lt_of_lt_of_le lp b2.size
   replace q4:=zAA b2 q4
   replace lB:=Nat.lt_of_lt_of_le lB b2.size
   have q1:=zAA b2 K1.c1
   have q2:=zAA b2 K1.c2
   have q3:=zAA b2 K1.c3
   replace M1:=M1.below b2
   have wP:IntKind.i64.wrap (x * rate)=P:=by rw [hPe];exact IntWalk.i64_in _ (by omega)
   go_wp2
   (refine zAC 8 (by kernel_rfl) (by kernel_rfl) ?_;simp only [zzA,zzB,zzC,zzD];(repeat (go_big_quiet_step ((fail))));refine wpQuiet_nil ?_;rintro _ ⟨ex,rfl⟩;have hex:=ex.below;have hexz:=ex.size;(try simp at hexz);(try (have hy0:w.heap.size < ex.to.heap.size:=by omega));(try (have hy1:w.heap.size + 1 < ex.to.heap.size:=by omega));(try (have hy2:w.heap.size + 2 < ex.to.heap.size:=by omega)))
   have b3:=ex.below
   obtain ⟨W3,hW3⟩:∃ z:World,z=ex.to:=⟨_,rfl⟩
   rw [← hW3] at b3 ⊢
   clear hW3
   obtain ⟨bd,od,al,cl,rfl,hbd,-,-,-,e3,hPa⟩:=(((hd.below t1).below b2).below b3) i hi
   rw [hke] at e3
   have hiI:(i:Int) < (ds.length:Int):=by omega
   replace p0:=zAA b3 p0
   replace lp:=Nat.lt_of_lt_of_le lp b3.size
   replace lB:=Nat.lt_of_lt_of_le lB b3.size
   replace q1:=zAA b3 q1
   replace q2:=zAA b3 q2
   replace q3:=zAA b3 q3
   replace q4:=zAA b3 q4
   clear wP
   go_wp2
   (refine zAC 11 (by kernel_rfl) (by kernel_rfl) ?_;simp only [zzA,zzB,zzC,zzD];(repeat (go_big_quiet_step ((fail))));refine wpQuiet_nil ?_;rintro _ ⟨ex,rfl⟩;have hex:=ex.below;have hexz:=ex.size;(try simp at hexz);(try (have hy0:w.heap.size < ex.to.heap.size:=by omega));(try (have hy1:w.heap.size + 1 < ex.to.heap.size:=by omega));(try (have hy2:w.heap.size + 2 < ex.to.heap.size:=by omega)))
   have b4:=ex.below
   obtain ⟨W4,hW4⟩:∃ z:World,z=ex.to:=⟨_,rfl⟩
   rw [← hW4] at b4 ⊢
   clear hW4 p1 e3
   have C4:=(C5.below b3).below b4
   replace q2:=zAA b4 q2
   replace q4:=zAA b4 q4
   replace lB:=Nat.lt_of_lt_of_le lB b4.size
   replace p0:=zAA b4 p0
   have p1:=zAA b4 (zAA b3 (zAA b2 (CP.cell 1)))
   simp at p1
   replace lp:=Nat.lt_of_lt_of_le lp b4.size
   have t4:=t2.trans ((b3.trans (b4.mono b3.size)).mono t2.size)
   have wY:IntKind.i64.wrap (P * keeps)=Y:=by rw [hYe];exact IntWalk.i64_in _ (by omega)
   have wk:IntKind.i64.wrap kp=kp:=IntWalk.i64_in _ (by omega)
   have wQ:Y.tdiv 100=kp:=by rw [Int.tdiv_eq_ediv_of_nonneg hY0];exact hkp
   have wd:IntKind.i64.wrap (P - kp)=P - kp:=IntWalk.i64_in _ (by omega)
   have wb:(P - kp).tdiv (k:Int)=base:=by rw [Int.tdiv_eq_ediv_of_nonneg (by omega)];exact hba
   have wb2:IntKind.i64.wrap base=base:=IntWalk.i64_in _ (by omega)
   have hk0:¬ ((k:Int)=0):=by omega
   go_wp2_with fail
   go_at_call 283
   have bA:Below W4.heap.size W4 (W4.alloc (.cells #[.int .i64 base] 3)):=(Below.refl _ _).alloc (Nat.le_refl _) _
   refine (zKR _ base 1 k _ ((Cells.new W4 _ _).ints [base] rfl) (by omega) (by omega)).mono ?_
   rintro e w5 ⟨⟨g,rfl,hg,CG⟩,b5⟩
   have b45:=bA.trans (b5.mono bA.size)
   have hgl:W4.heap.size < g:=by have:=bA.size;simp at hg;omega
   have C5w:=C4.below b45
   have y0:=C5w.cell 0
   have yf:=C5w.frozen 0
   have yl:=C5w.lt
   simp at y0
   go_upto_region 8 with fail
   obtain ⟨W6,hW6⟩:∃ z:World,z=w5.setCell ⟨W1.heap.size,0,none⟩ (.slice (some ⟨g,0,none⟩) k k):=⟨_,rfl⟩
   have z24:W1.heap.size < W2.heap.size:=C5.lt
   have z34:W2.heap.size≤W4.heap.size:=Nat.le_trans b3.size b4.size
   have b14:Below W1.heap.size W1 W4:=b2.trans ((b3.trans (b4.mono b3.size)).mono b2.size)
   have b16:Below W1.heap.size W1 W6:=by rw [hW6];exact (b14.trans (b45.mono b14.size)).setCell (p:=⟨W1.heap.size,0,none⟩) (Nat.le_refl _) _
   have C6:Cells W6 W1.heap.size #[.slice (some ⟨g,0,none⟩) k k] 22:=by rw [hW6];exact C5w.set 0 _
   have CG6:Cells W6 g (List.replicate k (.int .i64 base)).toArray 3:=by rw [hW6];exact CG.other (by omega) _ _
   rw [← hW6]
   clear hW6 y0 yf yl CG C5w C4 C5 b5 bA hg
   have y0:=C6.cell 0
   have yl:=C6.lt
   have x0:=CG6.cell 0
   have xf:=CG6.frozen 0
   have xl:=CG6.lt
   have hk1:0 < k:=hp.1
   simp [hk1] at y0 x0
   have wA:IntKind.i64.wrap (base + kp)=base + kp:=IntWalk.i64_in _ (by omega)
   have hkI:(0:Int) < (k:Int):=by omega
   go_upto_region 9 with fail
   obtain ⟨W7,hW7⟩:∃ z:World,z=W6.setCell ⟨g,0,none⟩ (.int .i64 (base + kp)):=⟨_,rfl⟩
   have b17:Below W1.heap.size W1 W7:=by rw [hW7];exact b16.setCell (p:=⟨g,0,none⟩) (by show W1.heap.size≤g;omega) _
   have C7:Cells W7 W1.heap.size #[.slice (some ⟨g,0,none⟩) k k] 22:=by rw [hW7];exact C6.other (by omega) _ _
   have CG7:Cells W7 g (shA base kp k []) 3:=by rw [hW7,← zNh base kp hp.1];exact CG6.set 0 _
   rw [← hW7]
   clear hW7 y0 yl x0 xf xl C6 CG6 b16
   obtain ⟨r,rfl⟩:∃ r:Nat,rem=(r:Int):=⟨rem.toNat,by omega⟩
   have wr:(P - kp).tmod (k:Int)=(r:Int):=by rw [Int.tmod_eq_emod_of_nonneg (by omega)];exact hre
   go_wp2_with fail
   go_at_call 284
   refine (zKT (r:Int) (k:Int) _).mono ?_
   rintro e w8 ⟨rfl,rfl⟩
   have CP8:Cells ((W7.alloc (.cells #[.int .i64 (r:Int)] 3)).alloc (.cells #[.int .i64 (k:Int)] 3)) W7.heap.size #[.int .i64 (r:Int)] 3:=(Cells.new _ _ _).alloc _
   have CM8:Cells ((W7.alloc (.cells #[.int .i64 (r:Int)] 3)).alloc (.cells #[.int .i64 (k:Int)] 3)) (W7.heap.size + 1) #[.int .i64 (k:Int)] 3:=Cells.new' _ _ _ _ (by simp)
   have b78:Below W7.heap.size W7 ((W7.alloc (.cells #[.int .i64 (r:Int)] 3)).alloc (.cells #[.int .i64 (k:Int)] 3)):=by exact zzL
   obtain ⟨W8,hW8⟩:∃ z:World,z=(W7.alloc (.cells #[.int .i64 (r:Int)] 3)).alloc (.cells #[.int .i64 (k:Int)] 3):=⟨_,rfl⟩
   rw [← hW8] at CP8 CM8 b78 ⊢
   have z8:W8.heap.size=W7.heap.size + 1 + 1:=by rw [hW8];simp
   clear hW8 wr
   have b18:=b17.trans (b78.mono b17.size)
   have C8:=C7.below b78
   have CG8:=CG7.below b78
   have lg7:=CG7.lt
   clear C7 CG7 b17
   go_wp2
   refine zD8 (fun A => (A.defers=[]∧A.tmps.getD 0 undef=.pointer (some ⟨B,0,none⟩)∧A.tmps.getD 3 undef=.pointer (some ⟨w.heap.size,0,none⟩)∧A.tmps.getD 5 undef=.pointer (some ⟨W1.heap.size,0,none⟩)∧A.tmps.getD 69 undef=.func (.func 316) #[] #[.pointer (some ⟨W7.heap.size,0,none⟩),.pointer (some ⟨W7.heap.size + 1,0,none⟩)])→Code.wp _ _ _ A W8) rfl ?_ ⟨rfl,rfl,rfl,rfl,rfl⟩
   intro dfs x0 x1 x2 x3 x4 x5 x6 x7 x8 x9 x10 x11 x12 x13 x14 x15 x16 x17 x18 x19 x20 x21 x22 x23 x24 x25 x26 x27 x28 x29 x30 x31 x32 x33 x34 x35 x36 x37 x38 x39 x40 x41 x42 x43 x44 x45 x46 x47 x48 x49 x50 x51 x52 x53 x54 x55 x56 x57 x58 x59 x60 x61 x62 x63 x64 x65 x66 x67 x68 x69 x70 x71 x72 x73 x74 x75 x76 x77 x78 x79 x80 x81 x82 x83 ⟨hdf,g0,g3,g5,g69⟩
   simp only [Array.getD_eq_getD_getElem?,zzH,zzJ,zzI,Option.getD_some] at hdf g0 g3 g5 g69
   subst hdf g0 g3 g5 g69
   refine (wpIn_wide (n:=5)).1 ?_
   refine wpIn_rangeFunc_ownG rfl (by omega) (gf:=316) (lb:=#[.pointer (some ⟨W7.heap.size,0,none⟩),.pointer (some ⟨W7.heap.size + 1,0,none⟩)]) rfl trivial (enters_of Tryz.func316 (by kernel_rfl) rfl)
    (zHi 4 (by omega) W8.heap.size g W7.heap.size (W7.heap.size + 1) r k (by omega) (by omega) W8 (by have:=CP8.cell 0;simpa using this) (by have:=CM8.cell 0;simpa using this) (by omega) (by omega) (by omega) (by omega)) KX.trans (fun W l o o' _ h ho _ => KX.putObj W l o o' h ho) (Below.refl _ _) (fun _ => rfl)
    (fun (pre:List (RV r)) V => Cells V g (shA base kp k (pre.map (fun y:RV r => y.1))) 3∧Below g W8 V)
    (fun _ _ _ => False)
    (fun pre X Y row hs hg hr => ⟨(hg.block _ hs.1.lt (fun e => by have:=(hr _ e.symm).1;omega)).trans hs.1,hs.2.grown hg (by have:=hs.1.lt;omega) (fun q e => by have:=(hr q e).1;omega)⟩)
    (fun _ _ _ _ _ hs _ _ => hs)
    ⟨CG8,Below.refl _ _⟩
    (fun z => { tmps:=#[.pointer (some ⟨B,0,none⟩),x1,x2,.pointer (some ⟨w.heap.size,0,none⟩),x4,.pointer (some ⟨W1.heap.size,0,none⟩),x6,x7,x8,x9,.int .i64 ((k:Int) - 1 - (z.1:Int)),x11,x12,x13,x14,x15,x16,x17,x18,x19,x20,x21,x22,x23,x24,x25,x26,x27,x28,x29,x30,x31,x32,x33,x34,x35,x36,x37,x38,x39,x40,x41,x42,x43,x44,x45,x46,x47,x48,x49,x50,x51,x52,x53,x54,x55,x56,x57,x58,x59,x60,x61,x62,x63,x64,x65,x66,x67,x68,.func (.func 316) #[] #[.pointer (some ⟨W7.heap.size,0,none⟩),.pointer (some ⟨W7.heap.size + 1,0,none⟩)],.int .i64 ((k:Int) - 1 - (z.1:Int)),x71,x72,x73,x74,x75,x76,x77,x78,x79,x80,x81,x82,x83],defers:=[] }) ?assign ?body ?done ?stop
   case assign =>
    intro l z W K hK
    unfold encR
    gi_wp2
    exact hK
   case body =>
    rintro l0 pre ⟨i',hi'⟩ V ⟨CV,bV⟩ hlt
    dsimp only
    have C8V:Cells V W1.heap.size #[.slice (some ⟨g,0,none⟩) k k] 22:=(bV.block W1.heap.size (by omega)).trans C8
    have y0:=C8V.cell 0
    have yl:=C8V.lt
    simp at y0
    have hik:i' < k:=by omega
    have x0:=CV.cell (k - 1 - i')
    rw [zPE base kp _ hik] at x0
    have hst:=zNi base kp (pre.map (fun y:RV r => y.1)) hik
    have hcn:((pre.map (fun y:RV r => y.1)).count i' : Nat)≤5:=Nat.le_trans List.count_le_length (by simp;omega)
    obtain ⟨v,hv⟩:∃ v,base + (if k - 1 - i'=0 then kp else 0) + ((pre.map (fun y:RV r => y.1)).count i' : Nat)=v:=⟨_,rfl⟩
    have hvb:0≤v∧v≤9000:=by rw [← hv];split <;> omega
    rw [hv] at x0 hst
    have xf:=CV.frozen (k - 1 - i')
    have xl:=CV.lt
    have hi1:(k:Int) - 1 - (i' : Int)=((k - 1 - i' : Nat):Int):=by omega
    have hi2:((k - 1 - i' : Nat):Int) < (k:Int):=by omega
    have wv:IntKind.i64.wrap (v + 1)=v + 1:=IntWalk.i64_in _ (by omega)
    rw [hi1]
    gi_wp2
    exact ⟨(KeepsOthers.setCell _ _ _).from _,KX.setCell _ _ _,by rw [List.map_append];have h9:=CV.set (k - 1 - i') (.int .i64 (v + 1));rw [hst] at h9;exact h9,bV.setCell (p:=⟨g,k - 1 - i',none⟩) (Nat.le_refl _) _⟩
   case done =>
    intro D ys V hD hys hI hK
    obtain ⟨CV,bV⟩:=hI
    rw [show ys.map (fun y:RV r => y.1)=List.range r by rw [show ys=rvs r r (Nat.le_refl _) from hys,zIf]] at CV
    have hsh:shR base kp k (List.range r)=zAf rate keeps k x:=zNg rate keeps (by unfold zKf;rw [hPe,hYe];exact hkp) (by rw [hPe];exact hba) (by rw [hPe];exact hre)
    have b1V:Below W1.heap.size W1 V:=b18.trans (bV.mono (by omega))
    have iV:IntsAt V (some ⟨g,0,none⟩) (zAf rate keeps k x):=CV.ints _ (by unfold shA;rw [hsh])
    have C8V:Cells V W1.heap.size #[.slice (some ⟨g,0,none⟩) k k] 22:=(bV.block W1.heap.size (by omega)).trans C8
    have MV:=(hM.below t1).below b1V
    have q4V:=zAA b1V K1.c4
    have p0V:=zAA b1V (CP.cell 0)
    have p1V:=zAA b1V (CP.cell 1)
    have y0:=C8V.cell 0
    have yl:=C8V.lt
    have lBV:=zAK q4V
    have lpV:=zAK p0V
    simp at y0 p0V p1V
    have hbw:=hM.lt
    have hz1:=t1.size
    have HK:=Lib.hid hK
    have HD:=Lib.hid hD
    have CVl:=CV.lt
    clear hK hys CV
    go_wp2
    (refine zAC 6 (by kernel_rfl) (by kernel_rfl) ?_;simp only [zzA,zzB,zzC,zzD];(repeat (go_big_quiet_step ((fail))));refine wpQuiet_nil ?_;rintro _ ⟨ex,rfl⟩;have hex:=ex.below;have hexz:=ex.size;(try simp at hexz);(try (have hy0:w.heap.size < ex.to.heap.size:=by omega));(try (have hy1:w.heap.size + 1 < ex.to.heap.size:=by omega));(try (have hy2:w.heap.size + 2 < ex.to.heap.size:=by omega)))
    have bX:=ex.below
    obtain ⟨X,hX⟩:∃ z:World,z=ex.to:=⟨_,rfl⟩
    rw [← hX] at bX ⊢
    clear hX
    have C8X:=C8V.below bX
    have tX:Below w.heap.size w X:=t1.trans ((b1V.trans (bX.mono b1V.size)).mono t1.size)
    have hlen:(shF rate keeps ds (i:Int) x).length=k:=by rw [hFe,zCK];exact hke
    refine zEs (i:Int) x (by omega) (by omega) rfl _ _ _ rfl rfl rfl g k (by rw [hlen];rfl) (by rw [hFe,hke];exact iV.below bX) (by have:=CVl;have:=bX.size;omega) (fun e => by have:=hav g e;omega) (MV.below bX) hn ?_
    intro X3 M3 K3
    have y3:=K3.cell (C8X.cell 0)
    have l3:=zAK y3
    simp at y3
    have hK3:X3.heap[D]?=some (.deferred (some [])):=(K3.grown.block D (by have:=(Array.getElem?_eq_some_iff.1 HK.out).1;have:=bX.size;omega) (fun e => by have:=HD.out;have:=Option.some.inj e;omega)).trans ((bX.block D (Array.getElem?_eq_some_iff.1 HK.out).1).trans HK.out)
    have i3:=(iV.below bX).keepP K3
    go_wp2
    have hDb:D≠bm:=by have:=HD.out;omega
    refine ⟨by simp,.inl ⟨_,_,rfl,run_takeDeferred hK3,?_⟩⟩
    refine ⟨_,results_tmp rfl _ _ _,⟨g,k,?_,?_⟩,?_,M3.put hK3 rfl hDb _⟩
    ·rw [hke];rfl
    ·rw [hke]
     exact fun q hq => by
      obtain ⟨b',off',e',hb',hc'⟩:=i3 q hq
      exact ⟨b',off',e',Nat.lt_of_lt_of_le hb' (grownBy_putObj' X3 D _).size,cell_kept hc' (grownBy_putObj' X3 D _) (fun r e => by cases e;exact ⟨_,hK3,rfl⟩)⟩
    ·have gp:=fun o' => grownBy_putObj' X3 D o'
     have zX:=tX.size
     have zX3:=K3.size
     refine ⟨⟨((gp _).os.trans K3.grown.os).trans tX.os,((gp _).tape.trans K3.grown.tape).trans tX.tape,((gp _).output.trans K3.grown.output).trans tX.output,Nat.le_trans zX (Nat.le_trans zX3 (gp _).size),fun q hq hn => ((gp _).block q (by omega) (fun e => by have:=HD.out;have:=Option.some.inj e;omega)).trans ((K3.grown.block q (by omega) hn).trans (tX.block q hq))⟩,hM.isMap,(M3.put hK3 rfl hDb _).isMap⟩
   case stop =>
    rintro D c pre V _ _ h _
    exact h.elim
 ·have hG':=hG rfl
  rw [hFe,zCK] at hG'
  obtain ⟨rfl,⟨g,rfl⟩,hI⟩:=hG'
  clear hFe hG
  go_enter Tryz.func231,Tryz.ntmps231
  go_wp2
  rw [← hW1]
  clear hW1
  go_region_held3 (fun w' => w'.cell? ⟨B,4,none⟩=some (.map (some bm))∧w'.cell? ⟨w.heap.size,0,none⟩=some (.int .i64 (i:Int))∧w'.cell? ⟨w.heap.size,1,none⟩=some (.int .i64 x)∧Sem.run Tryz.prog (Instr.lookup 287 (.map (some bm)) (.agg #[.int .i64 (i:Int),.int .i64 x]) true) w'=.ok (.tuple #[.slice (some ⟨g,0,none⟩) ds[i].passed.length c0,.bool true]) w')
   (first
    | exact S0 _ ((Below.refl _ _).drew)
    | exact S0 _ (((Below.refl _ _).drew).alloc (by first | exact Nat.le_refl _ | (simp;done)) _)
    | exact S0 _ (by exact zzL))
   (fail)
  all_goals
   go_wp2
   go_ret
   have b3:Below W1.heap.size W1 ((W1.alloc (.cells #[.slice (some ⟨g,0,none⟩) ds[i].passed.length c0] 22)).drew):=((Below.refl _ _).alloc (Nat.le_refl _) _).drew
   exact ⟨⟨g,c0,rfl,hI.below b3⟩,Keep.of_below hM.isMap (t1.trans (b3.mono t1.size)),(M1.below b3).mono (by omega)⟩
end
end Go.Proofs.YticjeianiahppaaGreatDoor.Pay
namespace Go.Proofs.YticjeianiahppaaGreatDoor.Pay
open Go.RowKit Go.Flow Go.Shelf
theorem zHh {rate keeps:Int} {k:Nat} {x:Int} (hr:0≤rate∧rate≤20) (hk:0≤keeps∧keeps≤100) (hx:1≤x∧x≤200) (hp:1≤k):∀ v ∈ zAf rate keeps k x,0≤v∧v≤8001:=by
 have hP0:0≤x * rate:=Int.mul_nonneg (by omega) hr.1
 have hP1:x * rate≤4000:=Int.le_trans (Int.mul_le_mul hx.2 hr.2 hr.1 (by omega)) (by decide)
 intro v hv
 unfold zAf zKf at hv
 obtain ⟨P,hPe⟩:∃ P,x * rate=P:=⟨_,rfl⟩
 rw [hPe] at hP0 hP1 hv
 have hY0:0≤P * keeps:=Int.mul_nonneg hP0 hk.1
 have hY1:P * keeps≤P * 100:=Int.mul_le_mul_of_nonneg_left hk.2 hP0
 obtain ⟨Y,hYe⟩:∃ Y,P * keeps=Y:=⟨_,rfl⟩
 rw [hYe] at hY0 hY1 hv
 obtain ⟨kp,hkp⟩:∃ kp,Y / 100=kp:=⟨_,rfl⟩
 rw [hkp] at hv
 have hkp1:0≤kp∧kp≤P:=by omega
 have hba1:0≤(P - kp) / (k:Int)∧(P - kp) / (k:Int)≤4000:=⟨Int.ediv_nonneg (by omega) (by omega),Int.le_trans (Int.ediv_le_self _ (by omega)) (by omega)⟩
 obtain ⟨b,hb⟩:∃ b,(P - kp) / (k:Int)=b:=⟨_,rfl⟩
 rw [hb] at hba1 hv
 simp only [List.mem_map] at hv
 obtain ⟨i,_,rfl⟩:=hv
 constructor <;> (split <;> split <;> omega)
def idxF (l:List Int) (s:Int):Int:=idxBy (fun y => s == y) l 0
def chF (rate keeps:Int) (d:Dis) (x s:Int):Int :=
 (if d.payer=s then - (x * rate) else 0) + (if 0≤idxF d.passed s then (zAf rate keeps d.passed.length x).getD (idxF d.passed s).toNat 0 else 0)
theorem zJp (l:List Int) (s:Int):∀ (k:Nat),idxBy (fun y => s == y) (l.drop k) k < (l.length:Int)∨l.length < k:=by
 intro k
 by_cases h:k < l.length
 ·have:=zBP (fun y => s == y) (l.drop k) k
  left
  have e:(l.drop k).length=l.length - k:=by simp
  have aux:∀ (xs:List Int) (j:Nat),idxBy (fun y => s == y) xs j < (j:Int) + xs.length∨xs=[]:=by
   intro xs
   induction xs with
   | nil => intro j;exact .inr rfl
   | cons a t ih =>
    intro j
    left
    simp only [idxBy,List.length_cons]
    split
    ·omega
    ·rcases ih (j + 1) with h1 | h1
     ·omega
     ·subst h1;simp [idxBy];omega
  rcases aux (l.drop k) k with h1 | h1
  ·omega
  ·have:=congrArg List.length h1
   simp at this;omega
 ·by_cases h2:l.length < k
  ·exact .inr h2
  ·left
   rw [List.drop_of_length_le (by omega)]
   simp [idxBy];omega
theorem zM9 (l:List Int) (s:Int) : -1≤idxF l s∧idxF l s < (l.length:Int):=by
 refine ⟨(zBP _ l 0).1,?_⟩
 rcases zJp l s 0 with h | h
 ·simpa [idxF] using h
 ·omega
section
variable (B bm:Nat) (st rate keeps:Int) (ds:List Dis) (ad:Option Addr) (cd:Nat) (i:Nat) (x s:Int) (n:Nat) (w:World) (hw:WkAt w B bm st rate keeps ad ds.length cd) (hd:zDE w ad ds) (av:List (Option Nat)) (hav:∀ q,some q ∈ av→q < w.heap.size) (hM:zAo w bm n (shF rate keeps ds) av) (hi:i < ds.length) (hr:0≤rate∧rate≤20) (hk:0≤keeps∧keeps≤100) (hx:1≤x∧x≤200) (hp:1≤ds[i].passed.length∧ds[i].passed.length≤5) (hl:ds.length≤1000) (hn:n < maxLen)
include hav hw hd hM hi hr hk hx hp hl hn
theorem zGh:Calls Tryz.prog 176 #[.pointer (some ⟨B,0,none⟩),.agg #[.int .i64 (i:Int),.int .i64 x],.int .i64 s] w fun e w' => e=.returned (.int .i64 (chF rate keeps ds[i] x s))∧Keep bm w w'∧zAo w' bm (n + 1) (shF rate keeps ds) av:=by
 obtain ⟨W1,hW1⟩:∃ z:World,z=w.alloc (.cells #[.int .i64 (i:Int),.int .i64 x] 292):=⟨_,rfl⟩
 have t1:Below w.heap.size w W1:=by rw [hW1];exact zzL
 have CP:Cells W1 w.heap.size #[.int .i64 (i:Int),.int .i64 x] 292:=by rw [hW1];exact Cells.new _ _ _
 have K1:=hw.below t1
 have q3:=K1.c3
 have lB:=K1.lt
 have p0:=CP.cell 0
 have lp:=CP.lt
 simp at p0
 obtain ⟨bd,od,al,cl,rfl,hbd,e0,e1,e2,e3,hPa⟩:=(hd.below t1) i hi
 have hsb:=zHh (k:=ds[i].passed.length) hr hk hx hp.1
 have hib:=zM9 ds[i].passed s
 have hsh:=fun (n:Nat) (W:World) (b:Below w.heap.size w W) (h:n < maxLen) (hm:zAo W bm n (shF rate keeps ds) av) => zKO B bm st rate keeps ds (some ⟨bd,od,none⟩) cd i x n W (hw.below b) (hd.below b) av (fun q e => Nat.lt_of_lt_of_le (hav q e) b.size) hm hi hr hk hx hp hl h
 have hP0:0≤x * rate:=Int.mul_nonneg (by omega) hr.1
 have hP1:x * rate≤4000:=Int.le_trans (Int.mul_le_mul hx.2 hr.2 hr.1 (by omega)) (by decide)
 have wP:IntKind.i64.wrap (x * rate)=x * rate:=IntWalk.i64_in _ (by omega)
 have wN:IntKind.i64.wrap (0 - x * rate) = - (x * rate):=by rw [IntWalk.i64_in _ (by omega)];omega
 have hch:chF rate keeps ds[i] x s=(if ds[i].payer=s then - (x * rate) else 0) + (if 0≤idxF ds[i].passed s then (zAf rate keeps ds[i].passed.length x).getD (idxF ds[i].passed s).toNat 0 else 0):=rfl
 obtain ⟨d,hde⟩:∃ d,ds[i]=d:=⟨_,rfl⟩
 rw [hde] at e0 e1 e2 e3 hPa hsb hib hsh hp hch ⊢
 obtain ⟨py,lo,hi2,l⟩:=d
 dsimp only at e0 e1 e2 e3 hPa hsb hib hsh hp hch
 have Hch:=Lib.hid hch
 clear hch
 have hiI:(i:Int) < (ds.length:Int):=by omega
 go_enter Tryz.func176,Tryz.ntmps176
 go_wp2
 rw [← hW1]
 clear hW1
 (refine zAD 10 [] [10] 47 [true,true,true,true,true,true,true,true,true,false] [PtrV W1.heap.size #[.int .i64 0,.int .i64 0,.int .i64 0,.slice none 0 0] 192] (by kernel_rfl) (by kernel_rfl) rfl (zAB (fun v w w' h hb => h.kept hb) zAR) ?_;simp only [zAU,List.filterMap_cons,List.filterMap_nil,zzH,zzI,zzJ];(repeat (refine zAM _ rfl (fun w => (by go_simp;rfl)) ?_));refine zAS ?_;simp only [zAF,zAt,Act.put,zzG,zzE,zzF,zzA,zzB,zzC,zzD];(repeat (refine zAL (fun K hK => ?_);go_simp;first | (refine hK _ ?_;clear hK K) | (apply Exists.intro;refine ⟨fun ex => ?_,hK _ ?_⟩;(fail);clear hK K)));refine zAQ ?_;simp only [zAT,under,zAZ,and_true,List.nil_append,List.cons_append])
 refine ⟨fun e => ?_,fun e => ?_⟩
 ·go_simp
  exact ⟨(Below.refl _ _).alloc (Nat.le_refl _) _,e.to.heap.size,rfl,e.size,Cells.new _ _ _⟩
 rintro v1 ⟨g7,rfl,hg7,C7⟩
 simp only [Act.put,zzG,zzE,zzF]
 have b2:=e.below
 obtain ⟨W2,hW2⟩:∃ z:World,z=e.to:=⟨_,rfl⟩
 rw [← hW2] at b2 C7 ⊢
 clear hW2 e
 have y0:=C7.cell 0
 have y1:=C7.cell 1
 have y2:=C7.cell 2
 have y3:=C7.cell 3
 have f0:=C7.frozen 0
 have f1:=C7.frozen 1
 have f2:=C7.frozen 2
 have f3:=C7.frozen 3
 have yl:=C7.lt
 simp at y0 y1 y2 y3
 go_upto_region 2 with fail
 obtain ⟨W3,hW3⟩:∃ z:World,z=(((W2.setCell ⟨g7,0,none⟩ (.int .i64 py)).setCell ⟨g7,1,none⟩ (.int .i64 lo)).setCell ⟨g7,2,none⟩ (.int .i64 hi2)).setCell ⟨g7,3,none⟩ (.slice al l.length cl):=⟨_,rfl⟩
 have b3:Below W1.heap.size W1 W3:=by rw [hW3];exact (((b2.setCell (p:=⟨g7,0,none⟩) hg7 _).setCell (p:=⟨g7,1,none⟩) hg7 _).setCell (p:=⟨g7,2,none⟩) hg7 _).setCell (p:=⟨g7,3,none⟩) hg7 _
 have C3:Cells W3 g7 #[.int .i64 py,.int .i64 lo,.int .i64 hi2,.slice al l.length cl] 192:=by rw [hW3];exact (((C7.set 0 _).set 1 _).set 2 _).set 3 _
 rw [← hW3]
 clear hW3 y0 y1 y2 y3 f0 f1 f2 f3 yl C7 b2 e0 e1 e2 e3 p0 lp q3 lB
 have z0:=C3.cell 0
 have zl:=C3.lt
 simp at z0
 have hlb:l.length≤1000:=by omega
 cases hps:(py == s)
 ·have hpn:¬ (py=s):=by simpa using hps
  have bU:=b3
  have UC:=C3
  have CU:=UC
  have K5:=K1.below bU
  have tU:=t1.trans (bU.mono t1.size)
  have MU:=hM.below tU
  have y0:=CU.cell 0
  have y3:=CU.cell 3
  have yl:=CU.lt
  simp at y0 y3
  have pU0:=zAA bU (CP.cell 0)
  have pU1:=zAA bU (CP.cell 1)
  have lpU:=Nat.lt_of_lt_of_le CP.lt bU.size
  simp at pU0 pU1
  have iU:=(hPa.below bU).at_
  have idx:=zFm al l cl s W3 (by omega) iU
  obtain ⟨ix,hix⟩:∃ ix,idxF l s=ix:=⟨_,rfl⟩
  have hib':=hib
  have hch:=Hch.out
  rw [hix] at hib' hch
  rw [show idxBy (fun y => s == y) l 0=ix from hix] at idx
  have Hch2:=Lib.hid hch
  clear hch hix
  go_wp2_with fail
  go_at_call 230
  refine idx.mono ?_
  rintro e _ ⟨rfl,rfl⟩
  by_cases h0:0≤ix
  ·obtain ⟨j,rfl⟩:∃ j:Nat,ix=(j:Int):=⟨ix.toNat,by omega⟩
   have hjl:j < l.length:=by omega
   have hjI:(j:Int) < (l.length:Int):=by omega
   go_wp2_with fail
   go_at_call 231
   refine (hsh n W3 tU hn MU).mono ?_
   rintro e U2 ⟨⟨g,c,rfl,hI⟩,k2,M2⟩
   have hlen:=zCK rate keeps l.length x
   obtain ⟨b9,o9,h9,lb9,c9⟩:=hI j (by rw [hlen];exact hjl)
   cases h9
   obtain ⟨v,hv⟩:∃ v,(zAf rate keeps l.length x).getD j 0=v:=⟨_,rfl⟩
   rw [hv] at c9
   have hvb:0≤v∧v≤8001:=by
    rw [← hv]
    have hjs:j < (zAf rate keeps l.length x).length:=by rw [hlen];exact hjl
    rw [show (zAf rate keeps l.length x).getD j 0=(zAf rate keeps l.length x)[j] by simp [hjs]]
    exact hsb _ (List.getElem_mem hjs)
   have wS:IntKind.i64.wrap (0 + v)=0 + v:=IntWalk.i64_in _ (by omega)
   simp at c9
   go_wp2
   go_ret
   refine ⟨?_,(Keep.of_below hM.isMap tU).trans k2,M2⟩
   refine zIg ?_
   rw [Hch2.out,if_pos h0,Int.toNat_natCast,hv]
   rw [if_neg hpn]
   try omega
  ·go_wp2
   go_ret
   refine ⟨?_,Keep.of_below hM.isMap tU,MU.mono (by omega)⟩
   refine zIg ?_
   rw [Hch2.out,if_neg (show ¬ (0≤ix) by omega)]
   rw [if_neg hpn]
   try omega
 ·have hpy:py=s:=by simpa using hps
  have q1:=zAA b3 K1.c1
  have lB3:=zAK q1
  have p1:=zAA b3 (CP.cell 1)
  have lp3:=Nat.lt_of_lt_of_le CP.lt b3.size
  simp at p1
  go_wp2
  (refine zAC 10 (by kernel_rfl) (by kernel_rfl) ?_;simp only [zzA,zzB,zzC,zzD];(repeat (go_big_quiet_step ((fail))));refine wpQuiet_nil ?_;rintro _ ⟨ex,rfl⟩;have hex:=ex.below;have hexz:=ex.size;(try simp at hexz);(try (have hy0:w.heap.size < ex.to.heap.size:=by omega));(try (have hy1:w.heap.size + 1 < ex.to.heap.size:=by omega));(try (have hy2:w.heap.size + 2 < ex.to.heap.size:=by omega)))
  have b4:=ex.below
  obtain ⟨W4,hW4⟩:∃ z:World,z=ex.to:=⟨_,rfl⟩
  rw [← hW4] at b4 ⊢
  clear hW4 q1 lB3 p1 lp3
  have bU:=b3.trans (b4.mono b3.size)
  have UC:=C3.below b4
  have CU:=UC
  have K5:=K1.below bU
  have tU:=t1.trans (bU.mono t1.size)
  have MU:=hM.below tU
  have y0:=CU.cell 0
  have y3:=CU.cell 3
  have yl:=CU.lt
  simp at y0 y3
  have pU0:=zAA bU (CP.cell 0)
  have pU1:=zAA bU (CP.cell 1)
  have lpU:=Nat.lt_of_lt_of_le CP.lt bU.size
  simp at pU0 pU1
  have iU:=(hPa.below bU).at_
  have idx:=zFm al l cl s W4 (by omega) iU
  obtain ⟨ix,hix⟩:∃ ix,idxF l s=ix:=⟨_,rfl⟩
  have hib':=hib
  have hch:=Hch.out
  rw [hix] at hib' hch
  rw [show idxBy (fun y => s == y) l 0=ix from hix] at idx
  have Hch2:=Lib.hid hch
  clear hch hix
  go_wp2_with fail
  go_at_call 230
  refine idx.mono ?_
  rintro e _ ⟨rfl,rfl⟩
  by_cases h0:0≤ix
  ·obtain ⟨j,rfl⟩:∃ j:Nat,ix=(j:Int):=⟨ix.toNat,by omega⟩
   have hjl:j < l.length:=by omega
   have hjI:(j:Int) < (l.length:Int):=by omega
   go_wp2_with fail
   go_at_call 231
   refine (hsh n W4 tU hn MU).mono ?_
   rintro e U2 ⟨⟨g,c,rfl,hI⟩,k2,M2⟩
   have hlen:=zCK rate keeps l.length x
   obtain ⟨b9,o9,h9,lb9,c9⟩:=hI j (by rw [hlen];exact hjl)
   cases h9
   obtain ⟨v,hv⟩:∃ v,(zAf rate keeps l.length x).getD j 0=v:=⟨_,rfl⟩
   rw [hv] at c9
   have hvb:0≤v∧v≤8001:=by
    rw [← hv]
    have hjs:j < (zAf rate keeps l.length x).length:=by rw [hlen];exact hjl
    rw [show (zAf rate keeps l.length x).getD j 0=(zAf rate keeps l.length x)[j] by simp [hjs]]
    exact hsb _ (List.getElem_mem hjs)
   have wS:IntKind.i64.wrap ((- (x * rate)) + v)=(- (x * rate)) + v:=IntWalk.i64_in _ (by omega)
   simp at c9
   go_wp2
   go_ret
   refine ⟨?_,(Keep.of_below hM.isMap tU).trans k2,M2⟩
   refine zIg ?_
   rw [Hch2.out,if_pos h0,Int.toNat_natCast,hv]
   rw [if_pos hpy]
   try omega
  ·go_wp2
   go_ret
   refine ⟨?_,Keep.of_below hM.isMap tU,MU.mono (by omega)⟩
   refine zIg ?_
   rw [Hch2.out,if_neg (show ¬ (0≤ix) by omega)]
   rw [if_pos hpy]
   try omega
end
theorem zQP {rate keeps:Int} {d:Dis} {x s:Int} (hr:0≤rate∧rate≤20) (hk:0≤keeps∧keeps≤100) (hx:1≤x∧x≤200) (hp:1≤d.passed.length) : -4000≤chF rate keeps d x s∧chF rate keeps d x s≤8001:=by
 have hP0:0≤x * rate:=Int.mul_nonneg (by omega) hr.1
 have hP1:x * rate≤4000:=Int.le_trans (Int.mul_le_mul hx.2 hr.2 hr.1 (by omega)) (by decide)
 have hsb:=zHh (k:=d.passed.length) hr hk hx hp
 have hib:=zM9 d.passed s
 unfold chF
 have h2:0≤(if 0≤idxF d.passed s then (zAf rate keeps d.passed.length x).getD (idxF d.passed s).toNat 0 else 0)∧(if 0≤idxF d.passed s then (zAf rate keeps d.passed.length x).getD (idxF d.passed s).toNat 0 else 0)≤8001:=by
  split
  ·have hj:(idxF d.passed s).toNat < (zAf rate keeps d.passed.length x).length:=by rw [zCK];omega
   rw [show (zAf rate keeps d.passed.length x).getD (idxF d.passed s).toNat 0=(zAf rate keeps d.passed.length x)[(idxF d.passed s).toNat] by simp [hj]]
   exact hsb _ (List.getElem_mem hj)
  ·omega
 obtain ⟨v,hv⟩:∃ v,(if 0≤idxF d.passed s then (zAf rate keeps d.passed.length x).getD (idxF d.passed s).toNat 0 else 0)=v:=⟨_,rfl⟩
 rw [hv] at h2 ⊢
 split <;> omega
structure Good (rate keeps:Int) (ds:List Dis):Prop where
 r:0≤rate∧rate≤20
 k:0≤keeps∧keeps≤100
 n:ds.length≤6
 p:∀ d ∈ ds,1≤d.passed.length∧d.passed.length≤5
 w:∀ d ∈ ds,1≤d.lo∧d.lo≤d.hi∧d.hi≤200
theorem zP1 {a:Acc} (h:zEW a=0):Good a.rate a.keeps a.ds:=by
 have A:=zI4 h
 exact ⟨A.rate,A.keeps,A.len,fun d hd => ⟨(zHO (A.dis d hd)).pos,A.few d hd⟩,fun d hd => ⟨(zHO (A.dis d hd)).lo,(zHO (A.dis d hd)).le,(zHO (A.dis d hd)).hi⟩⟩
def balN (rate keeps:Int) (ds:List Dis) (t:List Int) (s:Int):Nat→Int
 | 0 => 0
 | k + 1 => balN rate keeps ds t s k + chF rate keeps (ds.getD k ⟨0,0,0,[]⟩) (t.getD k 0) s
theorem zJO {rate keeps:Int} {ds:List Dis} {t:List Int} {s:Int} (G:Good rate keeps ds) (ht:∀ x ∈ t,1≤x∧x≤200) (hl:t.length≤ds.length):∀ k,k≤t.length→-4000 * (k:Int)≤balN rate keeps ds t s k∧balN rate keeps ds t s k≤8001 * (k:Int)
 | 0,_ => by simp [balN]
 | k + 1,h => by
  have ih:=zJO (s:=s) G ht hl k (by omega)
  have hk1:k < t.length:=by omega
  have hk2:k < ds.length:=by omega
  have e1:ds.getD k ⟨0,0,0,[]⟩=ds[k]:=by simp [hk2]
  have e2:t.getD k 0=t[k]:=by simp [hk1]
  have:=zQP (s:=s) G.r G.k (ht _ (List.getElem_mem hk1)) (G.p _ (List.getElem_mem hk2)).1
  rw [balN,e1,e2]
  push_cast
  omega
section
variable (B bm:Nat) (st rate keeps:Int) (ds:List Dis) (ad:Option Addr) (cd:Nat) (at_:Option Addr) (t:List Int) (ct:Nat) (s:Int) (n:Nat) (w:World) (hw:WkAt w B bm st rate keeps ad ds.length cd) (hd:zDE w ad ds) (av:List (Option Nat)) (hav:∀ q,some q ∈ av→q < w.heap.size) (hM:zAo w bm n (shF rate keeps ds) av) (G:Good rate keeps ds) (ht:IntsAt w at_ t) (hx:∀ x ∈ t,1≤x∧x≤200) (hl:t.length≤ds.length) (hn:n + 6 < maxLen)
include hav hw hd hM G ht hx hl hn
theorem zJN:Calls Tryz.prog 120 #[.pointer (some ⟨B,0,none⟩),.slice at_ t.length ct,.int .i64 s] w fun e w' => e=.returned (.int .i64 (balN rate keeps ds t s t.length))∧Keep bm w w'∧zAo w' bm (n + t.length) (shF rate keeps ds) av:=by
 have hn6:=G.n
 go_enter Tryz.func120,Tryz.ntmps120
 go_wp2
 go_loopw [6,7,8,11] (fun v _ _ j wr => ∃ k:Nat,k≤t.length∧j=.int .i64 k∧v=.int .i64 (balN rate keeps ds t s k)∧Keep bm w wr∧zAo wr bm (n + k) (shF rate keeps ds) av) (fun _ _ _ j _ => t.length - (intOf j).toNat)
 case atStart => exact ⟨0,Nat.zero_le _,rfl,rfl,Keep.refl hM.isMap,hM⟩
 case round =>
  obtain ⟨k,hk,rfl,rfl,hkp,hMk⟩:=hrel
  by_cases hlt:k < t.length
  ·have hkI:(k:Int) < (t.length:Int):=by omega
   have hkd:k < ds.length:=by omega
   obtain ⟨b,off,rfl,hb,hc⟩:=(ht.keepP hkp) k hlt
   have hb1:=zJO (s:=s) G hx hl k hk
   have hb2:=zJO (s:=s) G hx hl (k + 1) hlt
   have hxk:=hx _ (List.getElem_mem hlt)
   have e1:ds.getD k ⟨0,0,0,[]⟩=ds[k]:=by simp [hkd]
   have e2:t.getD k 0=t[k]:=by simp [hlt]
   have hsu:balN rate keeps ds t s (k + 1)=balN rate keeps ds t s k + chF rate keeps ds[k] t[k] s:=by rw [balN,e1,e2]
   rw [e2] at hc
   obtain ⟨x,hxe⟩:∃ x,t[k]=x:=⟨_,rfl⟩
   rw [hxe] at hc hsu hxk
   obtain ⟨v,hv⟩:∃ v,chF rate keeps ds[k] x s=v:=⟨_,rfl⟩
   obtain ⟨u,hu⟩:∃ u,balN rate keeps ds t s k=u:=⟨_,rfl⟩
   have hch:=zGh B bm st rate keeps ds ad cd k x s (n + k) wr (hw.keepP hkp) (hd.keepP hkp) av (fun q e => Nat.lt_of_lt_of_le (hav q e) hkp.size) hMk hkd G.r G.k hxk (G.p _ (List.getElem_mem hkd)) (by omega) (by omega)
   rw [hv] at hch hsu
   rw [hu] at hsu hb1 ⊢
   rw [hsu] at hb2
   have Hsu:=Lib.hid hsu
   have wS:IntKind.i64.wrap (u + v)=u + v:=IntWalk.i64_in _ (by push_cast at hb2;omega)
   clear hsu hv hu e1 e2 hxe
   go_wp2_with fail
   go_at_call 176
   refine hch.mono ?_
   rintro e w2 ⟨rfl,k2,M2⟩
   go_wp2
   go_roundw
   case rel => exact ⟨k + 1,by omega,by go_num,by rw [Hsu.out],hkp.trans k2,M2⟩
   case measure => simp [intOf];omega
  ·obtain rfl:k=t.length:=by omega
   go_wp2
   go_ret
   exact ⟨rfl,hkp,hMk⟩
end
theorem _root_.Go.Proofs.YticjeianiahppaaGreatDoor.OwnL.keepP {E:TypeId} {size base bm:Nat} {w w' : World} {a:Option Addr} {c n:Nat} {xs:List Value} (h:OwnL E size base w a c n xs) (k:Keep bm w w'):OwnL E size base w' a c n xs:=by
 refine ⟨h.1,?_⟩
 rcases h.2 with hn | ⟨g,cap,cur,hv,hbg,hg,rest⟩
 ·exact .inl hn
 ·refine .inr ⟨g,cap,cur,hv,hbg,?_,rest⟩
  rw [k.grown.block g (Array.getElem?_eq_some_iff.1 hg).1 (fun e => ?_)]
  ·exact hg
  ·obtain ⟨es,cl,hm⟩:=k.old
   rw [← Option.some.inj e,hg] at hm
   cases hm
theorem zED {E:TypeId} {size base bm:Nat} {w:World} {a:Option Addr} {c n:Nat} {xs:List Value} (h:OwnL E size base w a c n xs) (hm:zAl w bm):(Value.slice a n c).ownBlock≠some bm∧∀ q,(Value.slice a n c).ownBlock=some q→base≤q∧q < w.heap.size:=by
 rcases h.2 with hn | ⟨g,cap,cur,hv,hbg,hg,rest⟩
 ·rw [hn.1]
  exact ⟨fun e => by simp [Value.ownBlock] at e,fun q e => by simp [Value.ownBlock] at e⟩
 ·rw [hv]
  constructor
  ·intro e
   have e:g=bm:=by simpa [Value.ownBlock] using e
   obtain ⟨es,cl,hm⟩:=hm
   rw [← e,hg] at hm
   cases hm
  ·intro q e
   have e:g=q:=by simpa [Value.ownBlock] using e
   subst e
   exact ⟨hbg,(Array.getElem?_eq_some_iff.1 hg).1⟩
theorem zAo.turn {w w' : World} {bm n:Nat} {F:Int→Int→List Int} {r r' : Option Nat} {av:List (Option Nat)} (h:zAo w bm n F (r :: av)) (hg:w.grownBy w' r) (hb:r≠some bm) (ha:r'=r∨r'=some w.heap.size):zAo w' bm n F (r' :: av):=by
 obtain ⟨D,ho,hG⟩:=h
 refine ⟨D,ho.kept hg (fun e => hb e.symm),fun d x kl h1 h2 => ?_⟩
 obtain ⟨b,c,h3,h4,h5,h6⟩:=hG d x kl h1 h2
 refine ⟨b,c,h3,fun k hk => ?_,Nat.lt_of_lt_of_le h5 hg.size,?_⟩
 ·obtain ⟨b',off,e,hb',hc⟩:=h4 k hk
  cases e
  exact ⟨_,_,rfl,Nat.lt_of_lt_of_le hb' hg.size,(World.cell?_of_block (hg.block _ hb' (fun e => by rw [e] at h6;exact h6 List.mem_cons_self))).trans hc⟩
 ·rcases ha with rfl | rfl
  ·exact h6
  ·intro e
   rcases List.mem_cons.1 e with e | e
   ·have:=Option.some.inj e;omega
   ·exact h6 (List.mem_cons_of_mem _ e)
theorem Keep.own {bm:Nat} {A w w' : World} {r:Option Nat} (k:Keep bm A w) (hg:w.grownBy w' r) (hr:∀ q,r=some q→A.heap.size≤q) (hb:r≠some bm):Keep bm A w':=by
 have hm:zAl w' bm:=by
  obtain ⟨es,c,hm⟩:=k.new
  exact ⟨es,c,(hg.block bm (Array.getElem?_eq_some_iff.1 hm).1 (fun e => hb e.symm)).trans hm⟩
 exact ⟨⟨hg.os.trans k.grown.os,hg.tape.trans k.grown.tape,hg.output.trans k.grown.output,Nat.le_trans k.size hg.size,fun q hq hn => (hg.block q (by have:=k.size;omega) (fun e => by have:=hr q e.symm;omega)).trans (k.grown.block q hq hn)⟩,k.old,hm⟩
section
variable {P:Program} {t E:TypeId} {z:Value} {size bytes:Nat} {ops:Array Oper} {rest:List Oper} {o:Oper} {a:Act} {Q:Exit→Act→World→Prop}
theorem zEX {W:World} {cs:Array Value} {E2:TypeId} (el:Elem P t E z size bytes) (hgd:o.guard=none) (s x:Operand) (ho:o.op=.call { callee:=.builtin .append,args:=#[s,x],argTypes:=#[t,t] })
  (base:Nat) (a0:Option Addr) (n c0:Nat) (xs:List Value) (hs:a.eval s=.slice a0 n c0) (hown:OwnL E size base W a0 c0 n xs)
  (m c:Nat) (hx:a.eval x=.slice (some ⟨W.heap.size,0,none⟩) m c) (hl:cs.size=m * size) (h1:∀ u ∈ cs.toList,u.oneCell'=true)
  (h63:n + m≤maxLen) (hbytes:(n + m) * bytes≤140737488355328) (hbase:base≤W.heap.size) (hm:0 < m)
  (h:∀ a' c' w',OwnL E size base w' a' c' (n + m) (xs ++ cs.toList)→(W.alloc (.cells cs E2)).grownBy w' (Value.slice a0 n c0).ownBlock →
   ((Value.slice a' (n + m) c').ownBlock=(Value.slice a0 n c0).ownBlock∨(Value.slice a' (n + m) c').ownBlock=some (W.alloc (.cells cs E2)).heap.size)→wpList P ops Q rest (a.put o.dst (.slice a' (n + m) c')) w') :
  wpList P ops Q (o :: rest) a (W.alloc (.cells cs E2)):=by
 obtain ⟨i,hi,hz0,hz1,hz2⟩:=el.info
 refine wpList_append_own_at _ hgd s x t ho base E i z size bytes el.slice hi hz0 hz1 hz2 el.cells el.pos (.slice a0 n c0) n xs hs (hown.alloc _) ⟨W.heap.size,0,none⟩ m c cs.toList hx (by simpa using hl) ?_ h1 h63 hbytes (by simp;omega) ?_
 ·intro j u hu
  rw [addr_add,World.cell?_alloc_at _ _ _ _ rfl,Nat.zero_add]
  simpa using hu
 ·intro v' w' h2 h3 h4 h5
  have hv:∃ a' c',v'=.slice a' (n + m) c':=by
   rcases h2.2 with ⟨rfl,hnm⟩ | ⟨g,cap,cur,rfl,_⟩
   ·omega
   ·exact ⟨_,_,rfl⟩
  obtain ⟨a',c',rfl⟩:=hv
  exact h a' c' w' h2 h3 h5
end
open Go.RowKit Go.Flow
def lowF (lo hi:Int) (pays:Bool):Int:=if pays then hi else lo
theorem zMT (lo hi:Int) (b:Bool) (w:World) :
  Calls Tryz.prog 118 #[.agg #[.int .i64 lo,.int .i64 hi],.bool b] w fun e w' => e=.returned (.int .i64 (lowF lo hi b))∧Below w.heap.size w w':=by
 cases b
 ·go_enter Tryz.func118,Tryz.ntmps118
  go_wp2
  go_ret
  exact ⟨rfl,(Below.refl _ _).alloc (Nat.le_refl _) _⟩
 ·go_enter Tryz.func118,Tryz.ntmps118
  go_wp2
  go_ret
  exact ⟨rfl,(Below.refl _ _).alloc (Nat.le_refl _) _⟩
theorem zOJ (lo hi:Int) (b:Bool) (w:World) :
  Calls Tryz.prog 119 #[.agg #[.int .i64 lo,.int .i64 hi],.bool b] w fun e w' => e=.returned (.int .i64 (lowF lo hi (!b)))∧Below w.heap.size w w':=by
 go_enter Tryz.func119,Tryz.ntmps119
 go_wp2_with (go_at_call 118;refine (zMT lo hi (!b) _).mono ?_;rintro e w1 ⟨rfl,hb1⟩;obtain ⟨hc1,hf1,hz1⟩:=zAk hb1;(try simp at hz1);(try (have hy0:w.heap.size < w1.heap.size:=by omega));(try (have hy1:w.heap.size + 1 < w1.heap.size:=by omega));(try (have hy2:w.heap.size + 2 < w1.heap.size:=by omega)))
 go_ret
 exact ⟨rfl,by exact zzL⟩
def zCB (f:Int→Int) (b:Int):Nat→Int→Int
 | 0,n => n
 | k + 1,n => if f n=b then n else zCB f b k (n + 1)
theorem zKs {f:Int→Int} {b:Int} {n:Int} (h:f n=b):∀ k,zCB f b k n=n
 | 0 => rfl
 | k + 1 => by rw [zCB,if_pos h]
theorem zJD {f:Int→Int} {b:Int} {n:Int} (h:f n≠b) (k:Nat):zCB f b (k + 1) n=zCB f b k (n + 1):=by rw [zCB,if_neg h]
def zFd (rate keeps:Int) (X:Int→Int→Bool→Int) (s:Int) (d:Dis):Int:=zCB (fun n => chF rate keeps d n s) (chF rate keeps d (X d.lo d.hi (d.payer == s)) s) (d.hi - d.lo).toNat d.lo
def zC2 (rate keeps:Int) (X:Int→Int→Bool→Int) (s:Int) (ds:List Dis) (k:Nat):List Int:=(ds.take k).map (zFd rate keeps X s)
theorem zIj (rate keeps:Int) (X:Int→Int→Bool→Int) (s:Int) (ds:List Dis) {k:Nat} (h:k < ds.length):zC2 rate keeps X s ds (k + 1)=zC2 rate keeps X s ds k ++ [zFd rate keeps X s ds[k]]:=by
 rw [zC2,List.take_succ_eq_append_getElem h,List.map_append];rfl
section
variable (B bm:Nat) (st rate keeps:Int) (ds:List Dis) (ad:Option Addr) (cd:Nat) (s:Int) (n:Nat) (w:World) (hw:WkAt w B bm st rate keeps ad ds.length cd) (hd:zDE w ad ds) (av:List (Option Nat)) (hav:∀ q,some q ∈ av→q < w.heap.size) (hM:zAo w bm n (shF rate keeps ds) av) (G:Good rate keeps ds) (hn:n + 1300 < maxLen)
 (F:FuncId) (X:Int→Int→Bool→Int) (hg:∀ args w,Sem.run Tryz.prog (callFunc F args) w=.ok (.enter F args) w) (hF:∀ lo hi b w,Calls Tryz.prog F #[.agg #[.int .i64 lo,.int .i64 hi],.bool b] w fun e w' => e=.returned (.int .i64 (X lo hi b))∧Below w.heap.size w w') (hX:∀ lo hi b,lo≤hi→lo≤X lo hi b∧X lo hi b≤hi)
include hav hw hd hM G hn hg hF hX
theorem zEr:Calls Tryz.prog 121 #[.agg #[.func (.func F) #[] #[]],.pointer (some ⟨B,0,none⟩),.int .i64 s] w fun e w' => (∃ a c,e=.returned (.slice a ds.length c)∧IntsAt w' a (zC2 rate keeps X s ds ds.length)∧(a=none→c=0))∧Keep bm w w'∧zAo w' bm (n + 1300) (shF rate keeps ds) av:=by
 have hn6:=G.n
 obtain ⟨W0,hW0⟩:∃ z:World,z=w.alloc (.cells #[.func (.func F) #[] #[]] 227):=⟨_,rfl⟩
 have b0:Below w.heap.size w W0:=by rw [hW0];exact (Below.refl _ _).alloc (Nat.le_refl _) _
 have CF:Cells W0 w.heap.size #[.func (.func F) #[] #[]] 227:=by rw [hW0];exact Cells.new _ _ _
 have f0:=CF.cell 0
 have f1:=CF.lt
 simp at f0
 have K0:=hw.below b0
 have D0:=hd.below b0
 have M0:=hM.below b0
 have q3:=K0.c3
 have lB:=K0.lt
 have z0:=b0.size
 have q3w:=hw.c3
 have lBw:=hw.lt
 go_enter Tryz.func121,Tryz.ntmps121
 go_wp2
 rw [← hW0]
 clear hW0
 go_loopw [6,7,8,9,10,17] (fun u _ _ _ _ j X1 => ∃ (k:Nat) (ao:Option Addr) (co:Nat),k≤ds.length∧j=.int .i64 k∧u=.slice ao k co∧OwnL 3 1 W0.heap.size X1 ao co k ((zC2 rate keeps X s ds k).map (Value.int .i64))∧Keep bm W0 X1∧zAo X1 bm (n + 201 * k) (shF rate keeps ds) ((Value.slice ao k co).ownBlock :: av)) (fun _ _ _ _ _ j _ => ds.length - (intOf j).toNat)
 case atStart => exact ⟨0,none,0,Nat.zero_le _,rfl,rfl,(OwnL.nil _ _ _ _:OwnL 3 1 W0.heap.size W0 none 0 0 []),Keep.refl M0.isMap,M0.avoid (fun q e => .inl (by simpa [Value.ownBlock] using e))⟩
 case round =>
  obtain ⟨k,ao,co,hk,rfl,rfl,own,kp,hMk⟩:=hrel
  have hob:=zED own hMk.isMap
  by_cases hlt:k < ds.length
  ·have hkI:(k:Int) < (ds.length:Int):=by omega
   have hsu:=zIj rate keeps X s ds hlt
   obtain ⟨bd,od,al,cl,rfl,hbd,d0,d1,d2,d3,hPa⟩:=(D0.keepP kp) k hlt
   have hrd:zFd rate keeps X s ds[k]=zCB (fun n => chF rate keeps ds[k] n s) (chF rate keeps ds[k] (X ds[k].lo ds[k].hi (ds[k].payer == s)) s) (ds[k].hi - ds[k].lo).toNat ds[k].lo:=rfl
   have hGw:=G.w _ (List.getElem_mem hlt)
   have hch:=fun x (m:Nat) (hx:1≤x∧x≤200) (W:World) (kW:Keep bm wr W) (hm:zAo W bm m (shF rate keeps ds) ((Value.slice ao k co).ownBlock :: av)) (hmm:m < maxLen) => zGh B bm st rate keeps ds (some ⟨bd,od,none⟩) cd k x s m W ((K0.keepP kp).keepP kW) ((D0.keepP kp).keepP kW) ((Value.slice ao k co).ownBlock :: av) (fun q e => by
    rcases List.mem_cons.1 e with e | e
    ·exact Nat.lt_of_lt_of_le (hob.2 q e.symm).2 kW.size
    ·exact Nat.lt_of_lt_of_le (hav q e) (Nat.le_trans z0 (Nat.le_trans kp.size kW.size))) hm hlt G.r G.k hx (G.p _ (List.getElem_mem hlt)) (by omega) hmm
   obtain ⟨d,hde⟩:∃ d,ds[k]=d:=⟨_,rfl⟩
   rw [hde] at d0 d1 d2 d3 hPa hrd hsu hGw
   simp only [hde] at hch
   obtain ⟨py,lo,hi2,l⟩:=d
   dsimp only at d0 d1 d2 d3 hPa hrd hGw
   have q3':=kp.cell q3
   have f0':=kp.cell f0
   have lB':=Nat.lt_of_lt_of_le lB kp.size
   have f1':=Nat.lt_of_lt_of_le f1 kp.size
   have Hsu:=Lib.hid hsu
   have Hrd:=Lib.hid hrd
   have Hob:=Lib.hid hob
   clear hsu hrd hob hde
   have hf:=hF lo hi2 (py == s)
   have hx:=hX lo hi2 (py == s) hGw.2.1
   obtain ⟨x,hxe⟩:∃ x,X lo hi2 (py == s)=x:=⟨_,rfl⟩
   rw [hxe] at hf hx
   have CD:Cells (wr.alloc (.cells #[.int .i64 py,.int .i64 lo,.int .i64 hi2,.slice al l.length cl] 192)) wr.heap.size #[.int .i64 py,.int .i64 lo,.int .i64 hi2,.slice al l.length cl] 192:=Cells.new _ _ _
   have bD:Below wr.heap.size wr (wr.alloc (.cells #[.int .i64 py,.int .i64 lo,.int .i64 hi2,.slice al l.length cl] 192)):=(Below.refl _ _).alloc (Nat.le_refl _) _
   go_wp2_with fail
   refine (hf _).mono ?_
   rintro e w2 ⟨rfl,b2⟩
   have C2:=CD.below b2
   have b12:=bD.trans (b2.mono bD.size)
   have kW:=Keep.of_below hMk.isMap b12
   have M2:=hMk.below b12
   have hxb:1≤x∧x≤200:=by omega
   have hc1:=hch x (n + 201 * k) hxb w2 kW M2 (by omega)
   obtain ⟨v,hv⟩:∃ v,chF rate keeps ⟨py,lo,hi2,l⟩ x s=v:=⟨_,rfl⟩
   rw [hv] at hc1
   clear bD CD b2
   go_wp2_with fail
   go_at_call 176
   refine hc1.mono ?_
   rintro e w3 ⟨rfl,k3,M3⟩
   have y1:=k3.cell (C2.cell 1)
   have yl:=zAK y1
   simp at y1
   have k13:=kW.trans k3
   have Hv:=Lib.hid hv
   have hrd2:zFd rate keeps X s ⟨py,lo,hi2,l⟩=zCB (fun n => chF rate keeps ⟨py,lo,hi2,l⟩ n s) v (hi2 - lo).toNat lo:=by rw [Hrd.out,hxe,hv]
   have Hrd2:=Lib.hid hrd2
   clear hv hrd2 hxe Hrd
   go_wp2
   go_loopw [10] (fun u X2 => ∃ m:Nat,u=.int .i64 (lo + m)∧lo + m≤x∧Keep bm w3 X2∧zAo X2 bm (n + 201 * k + 1 + m) (shF rate keeps ds) ((Value.slice ao k co).ownBlock :: av)∧zFd rate keeps X s ⟨py,lo,hi2,l⟩=zCB (fun n => chF rate keeps ⟨py,lo,hi2,l⟩ n s) v ((hi2 - lo).toNat - m) (lo + m)) (fun u _ => (x - intOf u).toNat)
   case atStart => exact ⟨0,by simp,by simp;omega,Keep.refl M3.isMap,by simpa using M3,by rw [Hrd2.out];simp⟩
   case round =>
    obtain ⟨m,rfl,hmx,k4,M4,hfi⟩:=hrel
    rename World => U
    have Hfi:=Lib.hid hfi
    clear hfi
    have hn1:1≤lo + (m:Int)∧lo + (m:Int)≤200:=by omega
    have hc2:=hch (lo + m) (n + 201 * k + 1 + m) hn1 U (k13.trans k4) M4 (by omega)
    obtain ⟨c,hc⟩:∃ c,chF rate keeps ⟨py,lo,hi2,l⟩ (lo + m) s=c:=⟨_,rfl⟩
    rw [hc] at hc2
    obtain ⟨N,hN⟩:∃ N,lo + (m:Int)=N:=⟨_,rfl⟩
    rw [hN] at hn1 hc hc2 hmx ⊢
    by_cases hcv:c=v
    ·subst hcv
     have hR:zFd rate keeps X s ⟨py,lo,hi2,l⟩=N:=by rw [Hfi.out,hN];exact zKs (f:=fun n => chF rate keeps ⟨py,lo,hi2,l⟩ n s) hc _
     have hR2:=Hsu.out
     rw [hR] at hR2
     have HR:=Lib.hid hR2
     have hcnt:n + 201 * k + 1 + m + 1≤n + 201 * (k + 1):=by omega
     have hlen2:(Value.slice ao k co).ownBlock=(Value.slice ao k co).ownBlock:=rfl
     clear hR hR2 hc Hv Hfi hN hlen2
     have hne:(c != c)=false:=by simp
     go_wp2_with fail
     go_at_call 176
     refine hc2.mono ?_
     rintro e U2 ⟨rfl,k5,M5⟩
     have k15:=(k13.trans k4).trans k5
     have own5:=own.keepP k15
     have kp5:=kp.trans k15
     go_wp2_with (at_builtin;refine zEX zGM rfl _ _ rfl W0.heap.size ao k co _ rfl own5 1 1 rfl rfl (fun u hu => by simp at hu;subst hu;rfl) (by unfold maxLen;omega) (by omega) kp5.size (by omega) ?_;intro a9 c9 U3 own6 hg6 hv6)
     have bl:Below U2.heap.size U2 (U2.alloc (.cells #[.int .i64 N] 3)):=(Below.refl _ _).alloc (Nat.le_refl _) _
     have ob5:=zED own5 M5.isMap
     have M6:=(M5.below bl).turn hg6 ob5.1 hv6
     have kp6:=(kp5.below bl).own hg6 (fun q e => (ob5.2 q e).1) ob5.1
     go_wp2
     go_roundw
     case rel => exact ⟨k + 1,a9,c9,by omega,by go_num,rfl,by rw [HR.out,List.map_append];exact own6,kp6,M6.mono hcnt⟩
     case measure => simp [intOf];omega
    ·have hne:(c != v)=true:=by simpa using hcv
     have hNx:N≠x:=fun e => by subst e;exact hcv (hc.symm.trans Hv.out)
     have wN:IntKind.i64.wrap (N + 1)=N + 1:=IntWalk.i64_in _ (by omega)
     have hms:zCB (fun n => chF rate keeps ⟨py,lo,hi2,l⟩ n s) v ((hi2 - lo).toNat - m) N=zCB (fun n => chF rate keeps ⟨py,lo,hi2,l⟩ n s) v ((hi2 - lo).toNat - (m + 1)) (N + 1):=by
      rw [show (hi2 - lo).toNat - m=((hi2 - lo).toNat - (m + 1)) + 1 by omega]
      exact zJD (by rw [hc];exact hcv) _
     have hfi:=Hfi.out
     rw [hN,hms] at hfi
     have Hfi2:=Lib.hid hfi
     have HN:=Lib.hid hN
     have HNx:=Lib.hid hNx
     clear hfi hms Hfi hN hc hNx hcv
     go_wp2_with fail
     go_at_call 176
     refine hc2.mono ?_
     rintro e U2 ⟨rfl,k5,M5⟩
     go_wp2
     go_roundw
     case rel => exact ⟨m + 1,by have:=HN.out;push_cast;rw [← this];congr 1;omega,by have:=HN.out;have:=HNx.out;push_cast;omega,k4.trans k5,M5,by have:=HN.out;rw [Hfi2.out];push_cast;rw [← this,Int.add_assoc]⟩
     case measure => have:=HNx.out;simp [intOf];omega
  ·obtain rfl:k=ds.length:=by omega
   go_wp2
   go_ret
   exact ⟨⟨ao,co,rfl,own.ints.1,fun h => by subst h;exact own.isnil.2⟩,(Keep.of_below hM.isMap b0).trans kp,(hMk.mono (by omega)).avoid (fun q e => .inl (List.mem_cons_of_mem _ e))⟩
end
theorem zIH (f:Int→Int) (b:Int):∀ (k:Nat) (n:Int),n≤zCB f b k n∧zCB f b k n≤n + (k:Int)
 | 0,n => by simp [zCB]
 | k + 1,n => by
  have:=zIH f b k (n + 1)
  rw [zCB]
  split <;> push_cast <;> omega
theorem zLj {rate keeps:Int} {ds:List Dis} (G:Good rate keeps ds) (X:Int→Int→Bool→Int) (s:Int) (k:Nat):∀ x ∈ zC2 rate keeps X s ds k,1≤x∧x≤200:=by
 intro x hx
 simp only [zC2,List.mem_map] at hx
 obtain ⟨d,hd,rfl⟩:=hx
 have:=G.w d (List.mem_of_mem_take hd)
 have:=zIH (fun n => chF rate keeps d n s) (chF rate keeps d (X d.lo d.hi (d.payer == s)) s) (d.hi - d.lo).toNat d.lo
 unfold zFd
 omega
theorem zG1 (rate keeps:Int) (X:Int→Int→Bool→Int) (s:Int) (ds:List Dis):(zC2 rate keeps X s ds ds.length).length=ds.length:=by simp [zC2]
def lowX (lo hi:Int) (b:Bool):Int:=lowF lo hi b
def zHJ (lo hi:Int) (b:Bool):Int:=lowF lo hi (!b)
theorem zPS (lo hi:Int) (b:Bool) (h:lo≤hi):lo≤lowX lo hi b∧lowX lo hi b≤hi:=by unfold lowX lowF;split <;> omega
theorem zOK (lo hi:Int) (b:Bool) (h:lo≤hi):lo≤zHJ lo hi b∧zHJ lo hi b≤hi:=by unfold zHJ lowF;split <;> omega
def endB (rate keeps:Int) (ds:List Dis) (X:Int→Int→Bool→Int) (s:Int):Int:=balN rate keeps ds (zC2 rate keeps X s ds ds.length) s ds.length
def bdL (rate keeps:Int) (ds:List Dis) (m:Nat):List (Int × Int):=(List.range m).map fun (s:Nat) => (endB rate keeps ds lowX (s:Int),endB rate keeps ds zHJ (s:Int))
def zBx (l:List (Int × Int)):List Value:=l.flatMap fun p => [.int .i64 p.1,.int .i64 p.2]
theorem zCR:∀ (xs:List (Int × Int)) (k:Nat) (h:k < xs.length),(zBx xs)[k * 2]?=some (.int .i64 xs[k].1)∧(zBx xs)[k * 2 + 1]?=some (.int .i64 xs[k].2)
 | x :: xs,0,_ => by simp [zBx]
 | x :: xs,k + 1,h => by
  obtain ⟨a,b⟩:=zCR xs k (by simpa using h)
  have e:zBx (x :: xs)=.int .i64 x.1 :: .int .i64 x.2 :: zBx xs:=by simp [zBx]
  rw [e,show (k + 1) * 2=k * 2 + 2 by omega]
  exact ⟨a,b⟩
theorem zEd (xs:List (Int × Int)) (x:Int × Int):zBx (xs ++ [x])=zBx xs ++ [.int .i64 x.1,.int .i64 x.2]:=by simp [zBx]
theorem _root_.Go.Proofs.YticjeianiahppaaGreatDoor.OwnL.recs2P {T:TypeId} {base:Nat} {w:World} {a:Option Addr} {c n:Nat} {xs:List (Int × Int)} (h:OwnL T 2 base w a c n (zBx xs)):zAX w a xs:=fun k hk => by
 rcases h.form with ⟨_,_,_,h4⟩ | ⟨g,rfl,_,hlt,_,_,_,hc⟩
 ·have:=(zCR xs k hk).1;rw [h4] at this;simp at this
 ·obtain ⟨e0,e1⟩:=zCR xs k hk
  exact ⟨g,0,rfl,hlt,by rw [Nat.zero_add];exact hc _ _ e0,by rw [Nat.zero_add];exact hc _ _ e1⟩
theorem zIu:(Tryz.prog.info? 103).map (fun i => (i.zero,i.size,i.bytes))=some (some (.agg #[.int .i64 0,.int .i64 0]),2,16):=by kernel_rfl
theorem zP7:Elem Tryz.prog 98 103 (.agg #[.int .i64 0,.int .i64 0]) 2 16:=⟨Tryz.underlying98,info_parts zIu,rfl,by decide⟩
theorem zO2 (rate keeps:Int) (ds:List Dis) (m:Nat):bdL rate keeps ds (m + 1)=bdL rate keeps ds m ++ [(endB rate keeps ds lowX (m:Int),endB rate keeps ds zHJ (m:Int))]:=by simp [bdL,List.range_succ]
def zLG (a:Acc):List (Int × Int):=if zEW a=0 then bdL a.rate a.keeps a.ds a.st.toNat else []
section
variable (st rate keeps:Int) (ds:List Dis) (ad:Option Addr) (cd:Nat) (w:World) (hd:zDE w ad ds) (sm:AccSmall ⟨st,rate,keeps,ds⟩)
include hd sm
theorem zPx (h0:zEW ⟨st,rate,keeps,ds⟩=0):Calls Tryz.prog 65 #[.agg #[.int .i64 st,.int .i64 rate,.int .i64 keeps,.slice ad ds.length cd]] w fun e w' => (∃ a c,e=.returned (.tuple #[.slice a (zLG ⟨st,rate,keeps,ds⟩).length c,.int .i64 0])∧OwnL 103 2 w.heap.size w' a c (zLG ⟨st,rate,keeps,ds⟩).length (zBx (zLG ⟨st,rate,keeps,ds⟩)))∧Below w.heap.size w w':=by
 have G:=zP1 h0
 simp only at G
 have hst:=(zI4 h0).st
 simp only at hst
 have wk:=fun W (b:Below w.heap.size w W) => zPA st rate keeps ds ad cd W (hd.below b) sm h0
 have C0:=Cells.new w #[.int .i64 st,.int .i64 rate,.int .i64 keeps,.slice ad ds.length cd] 55
 have hn6:=G.n
 have hO:zLG ⟨st,rate,keeps,ds⟩=bdL rate keeps ds st.toNat:=by unfold zLG;simp only [h0,if_true]
 obtain ⟨O,hOO⟩:∃ O,zLG ⟨st,rate,keeps,ds⟩=O:=⟨_,rfl⟩
 rw [hOO] at hO ⊢
 have HO:=Lib.hid hO
 clear hO hOO
 go_enter Tryz.func65,Tryz.ntmps65
 go_wp2_with fail
 go_at_call 117
 refine (wk _ (by exact zzL)).mono ?_
 rintro e w1 ⟨⟨B,bm,rfl,lB,lb,hw,hM⟩,b1⟩
 have t1:Below w.heap.size w w1:=by exact zzL
 have lb' : w.heap.size≤bm:=by simp at lb;omega
 clear lB lb wk
 have C1:=C0.below b1
 have q3:=C1.cell 0
 have lq:=C1.lt
 simp at q3
 obtain ⟨m,hm⟩:∃ m:Nat,st=(m:Int):=⟨st.toNat,by omega⟩
 subst hm
 obtain ⟨W2,hW2⟩:∃ z:World,z=(w1.alloc (.cells #[.func (.func 118) #[] #[]] 227)).alloc (.cells #[.func (.func 119) #[] #[]] 227):=⟨_,rfl⟩
 have b2:Below w1.heap.size w1 W2:=by rw [hW2];exact ((Below.refl _ _).alloc (Nat.le_refl _) _).alloc (by simp) _
 have CL:Cells W2 w1.heap.size #[.func (.func 118) #[] #[]] 227:=by rw [hW2];exact (Cells.new _ _ _).alloc _
 have CH:Cells W2 (w1.heap.size + 1) #[.func (.func 119) #[] #[]] 227:=by rw [hW2];exact Cells.new' _ _ _ _ (by simp)
 have K2:=hw.below b2
 have M2:=hM.below b2
 have D2:=hd.below (t1.trans (b2.mono t1.size))
 have lB2:=K2.lt
 have l0:=CL.cell 0
 have l1:=CH.cell 0
 have ll:=CL.lt
 have lh:=CH.lt
 simp at l0 l1
 have hml:30000 < maxLen:=by unfold maxLen;omega
 have z2:=b2.size
 go_wp2
 rw [← hW2]
 clear hW2
 go_loopw [8,9,22] (fun u _ j Y => ∃ (s:Nat) (ao:Option Addr) (co:Nat),s≤m∧j=.int .i64 s∧u=.slice ao s co∧OwnL 103 2 W2.heap.size Y ao co s (zBx (bdL rate keeps ds s))∧Keep bm W2 Y∧zAo Y bm (s * 2700) (shF rate keeps ds) [(Value.slice ao s co).ownBlock]) (fun _ _ j _ => m - (intOf j).toNat)
 case atStart => exact ⟨0,none,0,Nat.zero_le _,rfl,rfl,(OwnL.nil _ _ _ _:OwnL 103 2 W2.heap.size W2 none 0 0 []),Keep.refl M2.isMap,by have:=M2.avoid (av':=[(Value.slice none 0 0).ownBlock]) (fun q e => by simp [Value.ownBlock] at e);simpa using this⟩
 case round =>
  obtain ⟨s,ao,co,hs,rfl,rfl,own,kp,hMs⟩:=hrel
  have hob:=zED own hMs.isMap
  by_cases hlt:s < m
  ·have hsI:(s:Int) < (m:Int):=by omega
   have hav:∀ Y,Keep bm wr Y→∀ q,some q ∈ [(Value.slice ao s co).ownBlock]→q < Y.heap.size:=fun Y kY q e => Nat.lt_of_lt_of_le (hob.2 q (List.mem_singleton.1 e).symm).2 kY.size
   have hsu:=zO2 rate keeps ds s
   have hT1:=fun (n:Nat) (Y:World) (kY:Keep bm wr Y) (mY:zAo Y bm n (shF rate keeps ds) [(Value.slice ao s co).ownBlock]) (hn:n + 1300 < maxLen) => zEr B bm (m:Int) rate keeps ds ad cd (s:Int) n Y ((K2.keepP kp).keepP kY) ((D2.keepP kp).keepP kY) _ (hav Y kY) mY G hn 118 lowX (enters Tryz.func118 (by kernel_rfl) rfl) zMT zPS
   have hT2:=fun (n:Nat) (Y:World) (kY:Keep bm wr Y) (mY:zAo Y bm n (shF rate keeps ds) [(Value.slice ao s co).ownBlock]) (hn:n + 1300 < maxLen) => zEr B bm (m:Int) rate keeps ds ad cd (s:Int) n Y ((K2.keepP kp).keepP kY) ((D2.keepP kp).keepP kY) _ (hav Y kY) mY G hn 119 zHJ (enters Tryz.func119 (by kernel_rfl) rfl) zOJ zOK
   have hB:∀ (X:Int→Int→Bool→Int) (n:Nat) (Y:World) (a:Option Addr) (c:Nat),Keep bm wr Y→zAo Y bm n (shF rate keeps ds) [(Value.slice ao s co).ownBlock]→n + 6 < maxLen→IntsAt Y a (zC2 rate keeps X (s:Int) ds ds.length)→Calls Tryz.prog 120 #[.pointer (some ⟨B,0,none⟩),.slice a ds.length c,.int .i64 (s:Int)] Y fun e w' => e=.returned (.int .i64 (endB rate keeps ds X (s:Int)))∧Keep bm Y w'∧zAo w' bm (n + 6) (shF rate keeps ds) [(Value.slice ao s co).ownBlock]:=by
    intro X n Y a c kY mY hn hI
    have h:=zJN B bm (m:Int) rate keeps ds ad cd a (zC2 rate keeps X (s:Int) ds ds.length) c (s:Int) n Y ((K2.keepP kp).keepP kY) ((D2.keepP kp).keepP kY) _ (hav Y kY) mY G hI (zLj G X _ _) (by rw [zG1];exact Nat.le_refl _) hn
    rw [zG1] at h
    exact h.mono fun e w' ⟨h1,h2,h3⟩ => ⟨h1,h2,h3.mono (by omega)⟩
   have hB1:=hB lowX
   have hB2:=hB zHJ
   obtain ⟨L1,hL1⟩:∃ L,zC2 rate keeps lowX (s:Int) ds ds.length=L:=⟨_,rfl⟩
   obtain ⟨L2,hL2⟩:∃ L,zC2 rate keeps zHJ (s:Int) ds ds.length=L:=⟨_,rfl⟩
   obtain ⟨v1,hv1⟩:∃ v,endB rate keeps ds lowX (s:Int)=v:=⟨_,rfl⟩
   obtain ⟨v2,hv2⟩:∃ v,endB rate keeps ds zHJ (s:Int)=v:=⟨_,rfl⟩
   rw [hv1,hv2] at hsu
   rw [hL1,hv1] at hB1
   rw [hL2,hv2] at hB2
   simp only [hL1] at hT1
   simp only [hL2] at hT2
   have Hsu:=Lib.hid hsu
   have Hob:=Lib.hid hob
   have i0:=kp.cell l0
   have i1:=kp.cell l1
   have hz:=kp.size
   clear hsu hob hav hB hL1 hL2 hv1 hv2
   have kk:Keep bm wr wr.drew:=Keep.of_below hMs.isMap (Below.refl _ _).drew
   have mm:=hMs.below (Below.refl _ _).drew
   go_wp2
   obtain ⟨ri,hi0,hz0,hz1,hz2⟩:=zP7.info
   go_region_held3 (fun w' => w'.cell? ⟨w1.heap.size,0,none⟩=some (.func (.func 118) #[] #[])∧w'.cell? ⟨w1.heap.size + 1,0,none⟩=some (.func (.func 119) #[] #[]))
    (first
     | exact ⟨kk.cell i0,kk.cell i1⟩
     | exact ⟨(kk.below ((Below.refl _ _).alloc (Nat.le_refl _) _)).cell i0,(kk.below ((Below.refl _ _).alloc (Nat.le_refl _) _)).cell i1⟩
     | exact ⟨kfin.cell l0,kfin.cell l1⟩
     | fail)
    (first | (go_at_call 121;(first | (with_reducible refine (hT1 _ _ kk mm (by omega)).mono ?_) | (with_reducible refine (hT2 _ _ kk mm (by omega)).mono ?_));rintro e w9 ⟨⟨a9,c9,rfl,i9,-⟩,k9,m9⟩;replace kk:=kk.trans k9;replace mm:=m9) | (go_at_call 120;(first | (with_reducible refine (hB1 _ _ _ _ kk mm (by omega) i9).mono ?_) | (with_reducible refine (hB2 _ _ _ _ kk mm (by omega) i9).mono ?_));rintro e w9 ⟨rfl,k9,m9⟩;replace kk:=kk.trans k9;replace mm:=m9) | (refine step_append_lies _ (by rfl) _ _ _ (by rfl) W2.heap.size 103 ri _ 2 16 Tryz.underlying98 hi0 hz0 hz1 hz2 rfl (by omega) (.slice ao s co) s _ (by rfl) ((own.keepP kk).alloc _) ⟨w9.heap.size,0,none⟩ 1 1 [.int .i64 v1,.int .i64 v2] (by rfl) (by rfl) (World.news_of_block (cs:=#[.int .i64 v1,.int .i64 v2]) (t:=103) (fr:=(0,0)) (heap_alloc_new w9 _)) (by simp [Value.oneCell']) (by omega) (by unfold maxLen;omega) (by omega) (by have:=(kp.trans kk).size;simp;omega) (w9.heap.size + 1) (by simp) ?_;intro gg cap w10 own10 hg10 hat10 hlt10;have ob10:=zED (own.keepP kk) mm.isMap;have bl:Below w9.heap.size w9 (w9.alloc (.cells #[.int .i64 v1,.int .i64 v2] 103)):=(Below.refl _ _).alloc (Nat.le_refl _) _;have kfin:=((kp.trans kk).below bl).own hg10 (fun q e => (ob10.2 q e).1) ob10.1;have mfin:=(mm.below bl).turn (r':=some gg) hg10 ob10.1 (hat10.elim (fun e => .inl e.symm) (fun e => .inr (by rw [e];simp)))))
   go_wp2
   go_roundw
   case rel => exact ⟨s + 1,_,_,by omega,by go_num,rfl,by rw [Hsu.out,zEd];exact own10,kfin,mfin.mono (by omega)⟩
   case measure => simp [intOf];omega
  ·obtain rfl:s=m:=by omega
   have hbl:(bdL rate keeps ds s).length=s:=by simp [bdL]
   have hkb:Below w.heap.size w wr:=by
    have tk:=t1.trans (b2.mono t1.size)
    exact ⟨kp.grown.os.trans tk.os,kp.grown.tape.trans tk.tape,kp.grown.output.trans tk.output,Nat.le_trans tk.size kp.size,fun q hq => (kp.grown.block q (by have:=tk.size;omega) (fun e => by have:=Option.some.inj e;omega)).trans (tk.block q hq)⟩
   have hOs:O=bdL rate keeps ds s:=HO.out
   subst hOs
   have Hbl:=Lib.hid hbl
   clear hbl
   go_wp2
   go_ret2
   exact ⟨⟨ao,co,by rw [Hbl.out];rfl,by rw [Hbl.out];exact own.base_le (t1.trans (b2.mono t1.size)).size⟩,hkb⟩
end
end Go.Proofs.YticjeianiahppaaGreatDoor.Pay
