/- The session book: contracts of the program and of the laws' helpers, joined (Ci). -/
import Derived.Test.YticjeianiahppaaGreatDoorBA
import Derived.Lib.SliceRun
import Derived.Maps.OwnSet
import Derived.DeepKeys4
import Derived.Outline
import Derived.Laws.EntriesVeiled
import Derived.RangeFuncNested
import Derived.RangeFuncBound
import Derived.RangeFuncCalls
import Derived.RangeFuncLeaves
import Derived.Shelf.Abstract
import Derived.Shelf.RegionOpen
import Derived.OwnWalkIn
import Derived.TacticsInMore
import Derived.LoopNIn
import Derived.LoopIn
import Derived.Maps.AppendAt
import Derived.OneCell
import Derived.Deep.Cut
set_option linter.unusedVariables false
set_option linter.unusedSimpArgs false
set_option linter.unnecessarySimpa false
set_option maxRecDepth 100000
set_option maxHeartbeats 40000000
namespace Go.Proofs.YticjeianiahppaaGreatDoor.Cph
open Go.RowKit Go.Flow
theorem zAm (a b c:Int) (w:World) :
  Calls Tryz.prog 219 #[.int .i64 a,.int .i64 b,.int .i64 c] w fun e w' => e=.returned (.bool (decide (b≤a) && decide (a≤c)))∧w=w':=by
 by_cases h:b≤a
 ·have h1:decide (b≤a)=true:=by simpa using h
  go_enter Tryz.func219,Tryz.ntmps219
  go_wp2
  go_ret
  exact ⟨by simp [h1],rfl⟩
 ·have h1:decide (b≤a)=false:=by simpa using h
  go_enter Tryz.func219,Tryz.ntmps219
  go_wp2
  go_ret
  exact ⟨by simp [h1],rfl⟩
theorem zLs (s wo n:Int) (ks ds:Value) (w:World) (h0:0≤s) (h1:s≤1000) :
  Calls Tryz.prog 274 #[.agg #[.int .i64 s,.int .i64 wo,ks,ds],.int .i64 n] w fun e w' => e=.returned (.bool (decide (0≤n) && decide (n≤s - 1)))∧Below w.heap.size w w':=by
 go_enter Tryz.func274,Tryz.ntmps274
 go_wp2_with (go_at_call 219;refine (zAm _ _ _ _).mono ?_;rintro e w1 ⟨rfl,rfl⟩)
 go_ret
 exact ⟨rfl,(Below.refl _ _).alloc (Nat.le_refl _) _⟩
theorem zLw (s wo n:Int) (ak ad:Option Addr) (nk ck nd cd:Nat) (w:World) (h:nk≤1000) :
  Calls Tryz.prog 218 #[.agg #[.int .i64 s,.int .i64 wo,.slice ak nk ck,.slice ad nd cd],.int .i64 n] w fun e w' => e=.returned (.bool (decide (0≤n) && decide (n≤(nk:Int) - 1)))∧Below w.heap.size w w':=by
 go_enter Tryz.func218,Tryz.ntmps218
 go_wp2_with (go_at_call 219;refine (zAm _ _ _ _).mono ?_;rintro e w1 ⟨rfl,rfl⟩)
 go_ret
 exact ⟨rfl,(Below.refl _ _).alloc (Nat.le_refl _) _⟩
theorem zP9 (s wo n:Int) (ak ad:Option Addr) (nk ck nd cd:Nat) (w:World) (h:nd≤1000) :
  Calls Tryz.prog 223 #[.agg #[.int .i64 s,.int .i64 wo,.slice ak nk ck,.slice ad nd cd],.int .i64 n] w fun e w' => e=.returned (.bool (decide (0≤n) && decide (n≤(nd:Int) - 1)))∧Below w.heap.size w w':=by
 go_enter Tryz.func223,Tryz.ntmps223
 go_wp2_with (go_at_call 219;refine (zAm _ _ _ _).mono ?_;rintro e w1 ⟨rfl,rfl⟩)
 go_ret
 exact ⟨rfl,(Below.refl _ _).alloc (Nat.le_refl _) _⟩
theorem zPX (s wo m a st:Int) (ks ds:Value) (w:World) (h0:0≤s) (h1:s≤1000) :
  Calls Tryz.prog 217 #[.agg #[.int .i64 s,.int .i64 wo,ks,ds],.agg #[.int .i64 m,.int .i64 a,.int .i64 st]] w fun e w' => e=.returned (.bool ((decide (1≤m) && decide (m≤s - 1)) && (decide (0≤a) && decide (a≤s - 1)) && (decide (0≤st) && decide (st≤s - 1))))∧Below w.heap.size w w':=by
 go_enter Tryz.func217,Tryz.ntmps217
 go_wp2_with (first | (go_at_call 219;refine (zAm _ _ _ _).mono ?_;rintro e w1 ⟨rfl,rfl⟩) | (go_at_call 274;refine (zLs _ _ _ _ _ _ (by assumption) (by assumption)).mono ?_;rintro e w1 ⟨rfl,hb1⟩;obtain ⟨hc1,hf1,hz1⟩:=zAk hb1;(try simp at hz1);(try (have hy0:w.heap.size < w1.heap.size:=by omega));(try (have hy1:w.heap.size + 1 < w1.heap.size:=by omega));(try (have hy2:w.heap.size + 2 < w1.heap.size:=by omega))))
 all_goals go_ret
 all_goals (refine ⟨by simp [*],?_⟩;exact zzL)
def zC9 (n k:Nat):Bool:=(List.range k).all fun d => !(decide (1 < d) && decide (n % d=0))
theorem zEo (n k:Nat):zC9 n (k + 1)=(zC9 n k && !(decide (1 < k) && decide (n % k=0))):=by
 simp [zC9,List.range_succ]
theorem zGs (n k m:Nat) (h:k < m) (h1:1 < k) (h2:n % k=0):zC9 n m=false:=by
 have:¬ (zC9 n m=true):=by
  intro hp
  simp only [zC9,List.all_eq_true,List.mem_range] at hp
  have:=hp k h
  simp [h1,h2] at this
 simpa using this
theorem zLl (n:Nat) (w:World) (h:n≤1000) :
  Calls Tryz.prog 220 #[.int .i64 n] w fun e w' => e=.returned (.bool (zC9 n n))∧w=w':=by
 go_enter Tryz.func220,Tryz.ntmps220
 go_wp2;go_step3
 go_wp2;go_step3
 go_wp2
 go_loop [2,3,5] (fun t _ i => ∃ k:Nat,k≤n∧i=.int .i64 k∧t=.bool true∧zC9 n k=true) (fun _ _ i => n - (intOf i).toNat)
 case atStart => exact ⟨0,Nat.zero_le _,rfl,rfl,rfl⟩
 case round =>
  obtain ⟨k,hk,rfl,rfl,hp⟩:=hrel
  have Hp:=Lib.hid hp
  clear hp
  go_wp2
  ·have h1:(1:Int) < k:=by assumption
   have h2:((n:Int) % (k:Int) == 0)=true:=by assumption
   have h3:k < n:=by assumption
   rw [zGs n k n h3 (by omega) (by simp only [beq_iff_eq] at h2;omega)]
   go_ret
   exact ⟨rfl,rfl⟩
  ·have h2:((n:Int) % (k:Int) == 0)=false:=by assumption
   go_round
   case rel => exact ⟨k + 1,by omega,by go_num,rfl,by rw [zEo,Hp.out];simp only [beq_eq_false_iff_ne] at h2;simp;omega⟩
   case measure => simp [intOf];omega
  ·have h1:¬ (1:Int) < k:=by assumption
   go_round
   case rel => exact ⟨k + 1,by omega,by go_num,rfl,by rw [zEo,Hp.out];simp;omega⟩
   case measure => simp [intOf];omega
  ·obtain rfl:k=n:=by omega
   go_ret
   exact ⟨by rw [Hp.out];rfl,rfl⟩
theorem zLk (s:Int) (w:World) (h0:0≤s) (h1:s≤1000) :
  Calls Tryz.prog 220 #[.int .i64 s] w fun e w' => e=.returned (.bool (zC9 s.toNat s.toNat))∧w=w':=by
 obtain ⟨n,rfl⟩:=Int.eq_ofNat_of_zero_le h0
 exact zLl n w (by omega)
theorem zCr (a:Option Addr) (xs:List Int) (c:Nat) (g:FuncId) (first cap:Array Value) (p:Int→Bool) (w:World) (hl:xs.length≤9223372036854775807) (hx:IntsAt w a xs)
  (hg:∀ args w,Sem.run Tryz.prog (callFunc g args) w=.ok (.enter g args) w) (hp:∀ x ∈ xs,zAc Tryz.prog w g first cap (.int .i64 x) (p x)) :
  Calls Tryz.prog 262 #[.slice a xs.length c,.func (.func g) first cap] w fun e w' => e=.returned (.int .i64 (idxBy p xs 0))∧Below w.heap.size w w':=by
 go_enter Tryz.func262,Tryz.ntmps262
 go_wp2
 go_loopw [5,8] (fun _ i wr => ∃ k:Nat,k≤xs.length∧i=.int .i64 k∧Below w.heap.size w wr∧idxBy p xs 0=idxBy p (xs.drop k) k) (fun _ i _ => xs.length - (intOf i).toNat)
 case atStart => exact ⟨0,Nat.zero_le _,rfl,Below.refl _ _,by simp⟩
 case round =>
  obtain ⟨k,hk,rfl,hb,hi⟩:=hrel
  have Hi:=Lib.hid hi
  clear hi
  by_cases hlt:k < xs.length
  ·obtain ⟨b,off,rfl,hbl,hc⟩:=hx k hlt
   have hc' : wr.cell? ⟨b,off + k,none⟩=some (.int .i64 (xs.getD k 0)):=(hb.cell (p:=⟨b,off + k,none⟩) hbl).trans hc
   clear hc
   have hm:=hp xs[k] (List.getElem_mem hlt)
   go_wp2_with (refine (hm wr hb).mono ?_;rintro e w1 ⟨rfl,hb1⟩)
   ·have h1:p xs[k]=true:=by assumption
    go_ret
    exact ⟨by rw [Hi.out,idxBy_hit p xs k hlt h1];rfl,hb.trans (hb1.mono hb.size)⟩
   ·have h1:p xs[k]=false:=by assumption
    go_roundw
    case rel => exact ⟨k + 1,by omega,by go_num,hb.trans (hb1.mono hb.size),by rw [Hi.out,idxBy_miss p xs k hlt h1]⟩
    case measure => simp [intOf];omega
  ·go_wp2
   go_ret
   exact ⟨by rw [Hi.out,zBQ p xs k k (by omega)];rfl,hb⟩
theorem zBz (a:Option Addr) (xs:List Int) (c:Nat) (g:FuncId) (first cap:Array Value) (p:Int→Bool) (w:World) (hl:xs.length≤9223372036854775807) (hx:IntsAt w a xs)
  (hg:∀ args w,Sem.run Tryz.prog (callFunc g args) w=.ok (.enter g args) w) (hp:∀ x ∈ xs,zAc Tryz.prog w g first cap (.int .i64 x) (p x)) :
  Calls Tryz.prog 203 #[.slice a xs.length c,.func (.func g) first cap] w fun e w' => e=.returned (.bool (xs.any p))∧Below w.heap.size w w':=by
 rw [← zBJ p xs 0]
 have hi:=zBP p xs 0
 go_enter Tryz.func203,Tryz.ntmps203
 go_wp2_with (go_at_call 262;refine (zCr a xs c g first cap p w hl hx hg hp).mono ?_;rintro e w1 ⟨rfl,hb1⟩;obtain ⟨hc1,hf1,hz1⟩:=zAk hb1;(try simp at hz1);(try (have hy0:w.heap.size < w1.heap.size:=by omega));(try (have hy1:w.heap.size + 1 < w1.heap.size:=by omega));(try (have hy2:w.heap.size + 2 < w1.heap.size:=by omega)))
 go_ret
 exact ⟨rfl,hb1⟩
theorem zEj (x:Int) (B:Nat) (g:FuncId) (first cap:Array Value) (q:Bool) (w:World) (hB:B < w.heap.size) (hc:w.cell? ⟨B,0,none⟩=some (.func (.func g) first cap))
  (hg:∀ args w,Sem.run Tryz.prog (callFunc g args) w=.ok (.enter g args) w) (hm:zAc Tryz.prog w g first cap (.int .i64 x) q):zAc Tryz.prog w 277 #[] #[.pointer (some ⟨B,0,none⟩)] (.int .i64 x) !q:=by
 intro w' hb'
 have hc' : w'.cell? ⟨B,0,none⟩=some (.func (.func g) first cap):=(hb'.cell (p:=⟨B,0,none⟩) hB).trans hc
 have hBw:B < w'.heap.size:=Nat.lt_of_lt_of_le hB hb'.size
 clear hc
 show Calls Tryz.prog 277 #[.int .i64 x,.pointer (some ⟨B,0,none⟩)] w' _
 go_enter Tryz.func277,Tryz.ntmps277
 go_wp2_with (refine (hm _ hb').mono ?_;rintro e w1 ⟨rfl,hb1⟩)
 go_ret
 exact ⟨rfl,hb1⟩
theorem zJP (a:Option Addr) (xs:List Int) (c:Nat) (g:FuncId) (first cap:Array Value) (p:Int→Bool) (w:World) (hl:xs.length≤9223372036854775807) (hx:IntsAt w a xs)
  (hg:∀ args w,Sem.run Tryz.prog (callFunc g args) w=.ok (.enter g args) w) (hp:∀ x ∈ xs,zAc Tryz.prog w g first cap (.int .i64 x) (p x)) :
  Calls Tryz.prog 222 #[.slice a xs.length c,.func (.func g) first cap] w fun e w' => e=.returned (.bool (xs.all p))∧Below w.heap.size w w':=by
 have e1:xs.all p = !(xs.any fun x => !p x):=by rw [List.all_eq_not_any_not]
 rw [e1]
 have hb0:Below w.heap.size w (w.alloc (.cells #[.func (.func g) first cap] 255)):=(Below.refl _ _).alloc (Nat.le_refl _) _
 go_enter Tryz.func222,Tryz.ntmps222
 go_wp2_with (go_at_call 203;refine (zBz a xs c 277 #[] #[.pointer (some ⟨w.heap.size,0,none⟩)] (fun x => !p x) _ hl (hx.below hb0) (enters Tryz.func277 (by kernel_rfl) rfl) (fun x hxx => zEj x w.heap.size g first cap (p x) _ (by simp) (by rw [World.cell?_alloc_at _ _ _ _ rfl];rfl) hg ((hp x hxx).below hb0))).mono ?_;rintro e w1 ⟨rfl,hb1⟩;obtain ⟨hc1,hf1,hz1⟩:=zAk hb1;(try simp at hz1);(try (have hy0:w.heap.size < w1.heap.size:=by omega));(try (have hy1:w.heap.size + 1 < w1.heap.size:=by omega));(try (have hy2:w.heap.size + 2 < w1.heap.size:=by omega)))
 go_ret
 exact ⟨by simp,hb0.trans (hb1.mono (by simp))⟩
theorem zHG (a:Option Addr) (xs:List (Int × Int × Int)) (c:Nat) (g:FuncId) (first cap:Array Value) (p:(Int × Int × Int)→Bool) (w:World) (hl:xs.length≤9223372036854775807) (hx:zBX w a xs)
  (hg:∀ args w,Sem.run Tryz.prog (callFunc g args) w=.ok (.enter g args) w) (hp:∀ x ∈ xs,zAc Tryz.prog w g first cap (.agg #[.int .i64 x.1,.int .i64 x.2.1,.int .i64 x.2.2]) (p x)) :
  Calls Tryz.prog 314 #[.slice a xs.length c,.func (.func g) first cap] w fun e w' => e=.returned (.int .i64 (idxBy p xs 0))∧Below w.heap.size w w':=by
 go_enter Tryz.func314,Tryz.ntmps314
 go_wp2
 go_loopw [5,8] (fun _ i wr => ∃ k:Nat,k≤xs.length∧i=.int .i64 k∧Below w.heap.size w wr∧idxBy p xs 0=idxBy p (xs.drop k) k) (fun _ i _ => xs.length - (intOf i).toNat)
 case atStart => exact ⟨0,Nat.zero_le _,rfl,Below.refl _ _,by simp⟩
 case round =>
  obtain ⟨k,hk,rfl,hb,hi⟩:=hrel
  have Hi:=Lib.hid hi
  clear hi
  by_cases hlt:k < xs.length
  ·obtain ⟨b,off,rfl,hbl,h0,h1,h2⟩:=hx k hlt
   have h0':=(hb.cell (p:=⟨b,off + k * 3,none⟩) hbl).trans h0
   have h1':=(hb.cell (p:=⟨b,off + k * 3 + 1,none⟩) hbl).trans h1
   have h2':=(hb.cell (p:=⟨b,off + k * 3 + 2,none⟩) hbl).trans h2
   clear h0 h1 h2
   have hm:=hp xs[k] (List.getElem_mem hlt)
   go_wp2_with (refine (hm wr hb).mono ?_;rintro e w1 ⟨rfl,hb1⟩)
   ·have h1:p xs[k]=true:=by assumption
    go_ret
    exact ⟨by rw [Hi.out,idxBy_hit p xs k hlt h1];rfl,hb.trans (hb1.mono hb.size)⟩
   ·have h1:p xs[k]=false:=by assumption
    go_roundw
    case rel => exact ⟨k + 1,by omega,by go_num,hb.trans (hb1.mono hb.size),by rw [Hi.out,idxBy_miss p xs k hlt h1]⟩
    case measure => simp [intOf];omega
  ·go_wp2
   go_ret
   exact ⟨by rw [Hi.out,zBQ p xs k k (by omega)];rfl,hb⟩
theorem zFB (a:Option Addr) (xs:List (Int × Int × Int)) (c:Nat) (g:FuncId) (first cap:Array Value) (p:(Int × Int × Int)→Bool) (w:World) (hl:xs.length≤9223372036854775807) (hx:zBX w a xs)
  (hg:∀ args w,Sem.run Tryz.prog (callFunc g args) w=.ok (.enter g args) w) (hp:∀ x ∈ xs,zAc Tryz.prog w g first cap (.agg #[.int .i64 x.1,.int .i64 x.2.1,.int .i64 x.2.2]) (p x)) :
  Calls Tryz.prog 275 #[.slice a xs.length c,.func (.func g) first cap] w fun e w' => e=.returned (.bool (xs.any p))∧Below w.heap.size w w':=by
 rw [← zBJ p xs 0]
 have hi:=zBP p xs 0
 go_enter Tryz.func275,Tryz.ntmps275
 go_wp2_with (go_at_call 314;refine (zHG a xs c g first cap p w hl hx hg hp).mono ?_;rintro e w1 ⟨rfl,hb1⟩;obtain ⟨hc1,hf1,hz1⟩:=zAk hb1;(try simp at hz1);(try (have hy0:w.heap.size < w1.heap.size:=by omega));(try (have hy1:w.heap.size + 1 < w1.heap.size:=by omega));(try (have hy2:w.heap.size + 2 < w1.heap.size:=by omega)))
 go_ret
 exact ⟨rfl,hb1⟩
theorem zLJ (x:(Int × Int × Int)) (B:Nat) (g:FuncId) (first cap:Array Value) (q:Bool) (w:World) (hB:B < w.heap.size) (hc:w.cell? ⟨B,0,none⟩=some (.func (.func g) first cap))
  (hg:∀ args w,Sem.run Tryz.prog (callFunc g args) w=.ok (.enter g args) w) (hm:zAc Tryz.prog w g first cap (.agg #[.int .i64 x.1,.int .i64 x.2.1,.int .i64 x.2.2]) q):zAc Tryz.prog w 276 #[] #[.pointer (some ⟨B,0,none⟩)] (.agg #[.int .i64 x.1,.int .i64 x.2.1,.int .i64 x.2.2]) !q:=by
 intro w' hb'
 have hc' : w'.cell? ⟨B,0,none⟩=some (.func (.func g) first cap):=(hb'.cell (p:=⟨B,0,none⟩) hB).trans hc
 have hBw:B < w'.heap.size:=Nat.lt_of_lt_of_le hB hb'.size
 clear hc
 show Calls Tryz.prog 276 #[.agg #[.int .i64 x.1,.int .i64 x.2.1,.int .i64 x.2.2],.pointer (some ⟨B,0,none⟩)] w' _
 go_enter Tryz.func276,Tryz.ntmps276
 go_wp2_with (refine (hm _ (hb'.trans ((Below.refl _ _).alloc hb'.size _) )).mono ?_;rintro e w1 ⟨rfl,hb1⟩)
 go_ret
 exact ⟨rfl,((Below.refl _ _).alloc (Nat.le_refl _) _).trans (hb1.mono (by simp))⟩
theorem zPh (a:Option Addr) (xs:List (Int × Int × Int)) (c:Nat) (g:FuncId) (first cap:Array Value) (p:(Int × Int × Int)→Bool) (w:World) (hl:xs.length≤9223372036854775807) (hx:zBX w a xs)
  (hg:∀ args w,Sem.run Tryz.prog (callFunc g args) w=.ok (.enter g args) w) (hp:∀ x ∈ xs,zAc Tryz.prog w g first cap (.agg #[.int .i64 x.1,.int .i64 x.2.1,.int .i64 x.2.2]) (p x)) :
  Calls Tryz.prog 221 #[.slice a xs.length c,.func (.func g) first cap] w fun e w' => e=.returned (.bool (xs.all p))∧Below w.heap.size w w':=by
 have e1:xs.all p = !(xs.any fun x => !p x):=by rw [List.all_eq_not_any_not]
 rw [e1]
 have hb0:Below w.heap.size w (w.alloc (.cells #[.func (.func g) first cap] 327)):=(Below.refl _ _).alloc (Nat.le_refl _) _
 go_enter Tryz.func221,Tryz.ntmps221
 go_wp2_with (go_at_call 275;refine (zFB a xs c 276 #[] #[.pointer (some ⟨w.heap.size,0,none⟩)] (fun x => !p x) _ hl (hx.below hb0) (enters Tryz.func276 (by kernel_rfl) rfl) (fun x hxx => zLJ x w.heap.size g first cap (p x) _ (by simp) (by rw [World.cell?_alloc_at _ _ _ _ rfl];rfl) hg ((hp x hxx).below hb0))).mono ?_;rintro e w1 ⟨rfl,hb1⟩;obtain ⟨hc1,hf1,hz1⟩:=zAk hb1;(try simp at hz1);(try (have hy0:w.heap.size < w1.heap.size:=by omega));(try (have hy1:w.heap.size + 1 < w1.heap.size:=by omega));(try (have hy2:w.heap.size + 2 < w1.heap.size:=by omega)))
 go_ret
 exact ⟨by simp,hb0.trans (hb1.mono (by simp))⟩
theorem zGL (a:Option Addr) (xs:List (Int × Int)) (c:Nat) (g:FuncId) (first cap:Array Value) (p:(Int × Int)→Bool) (w:World) (hl:xs.length≤9223372036854775807) (hx:zAX w a xs)
  (hg:∀ args w,Sem.run Tryz.prog (callFunc g args) w=.ok (.enter g args) w) (hp:∀ x ∈ xs,zAc Tryz.prog w g first cap (.agg #[.int .i64 x.1,.int .i64 x.2]) (p x)) :
  Calls Tryz.prog 278 #[.slice a xs.length c,.func (.func g) first cap] w fun e w' => e=.returned (.int .i64 (idxBy p xs 0))∧Below w.heap.size w w':=by
 go_enter Tryz.func278,Tryz.ntmps278
 go_wp2
 go_loopw [5,8] (fun _ i wr => ∃ k:Nat,k≤xs.length∧i=.int .i64 k∧Below w.heap.size w wr∧idxBy p xs 0=idxBy p (xs.drop k) k) (fun _ i _ => xs.length - (intOf i).toNat)
 case atStart => exact ⟨0,Nat.zero_le _,rfl,Below.refl _ _,by simp⟩
 case round =>
  obtain ⟨k,hk,rfl,hb,hi⟩:=hrel
  have Hi:=Lib.hid hi
  clear hi
  by_cases hlt:k < xs.length
  ·obtain ⟨b,off,rfl,hbl,h0,h1⟩:=hx k hlt
   have h0':=(hb.cell (p:=⟨b,off + k * 2,none⟩) hbl).trans h0
   have h1':=(hb.cell (p:=⟨b,off + k * 2 + 1,none⟩) hbl).trans h1
   clear h0 h1
   have hm:=hp xs[k] (List.getElem_mem hlt)
   go_wp2_with (refine (hm wr hb).mono ?_;rintro e w1 ⟨rfl,hb1⟩)
   ·have h1:p xs[k]=true:=by assumption
    go_ret
    exact ⟨by rw [Hi.out,idxBy_hit p xs k hlt h1];rfl,hb.trans (hb1.mono hb.size)⟩
   ·have h1:p xs[k]=false:=by assumption
    go_roundw
    case rel => exact ⟨k + 1,by omega,by go_num,hb.trans (hb1.mono hb.size),by rw [Hi.out,idxBy_miss p xs k hlt h1]⟩
    case measure => simp [intOf];omega
  ·go_wp2
   go_ret
   exact ⟨by rw [Hi.out,zBQ p xs k k (by omega)];rfl,hb⟩
theorem zEe (a:Option Addr) (xs:List (Int × Int)) (c:Nat) (g:FuncId) (first cap:Array Value) (p:(Int × Int)→Bool) (w:World) (hl:xs.length≤9223372036854775807) (hx:zAX w a xs)
  (hg:∀ args w,Sem.run Tryz.prog (callFunc g args) w=.ok (.enter g args) w) (hp:∀ x ∈ xs,zAc Tryz.prog w g first cap (.agg #[.int .i64 x.1,.int .i64 x.2]) (p x)) :
  Calls Tryz.prog 224 #[.slice a xs.length c,.func (.func g) first cap] w fun e w' => e=.returned (.bool (xs.any p))∧Below w.heap.size w w':=by
 rw [← zBJ p xs 0]
 have hi:=zBP p xs 0
 go_enter Tryz.func224,Tryz.ntmps224
 go_wp2_with (go_at_call 278;refine (zGL a xs c g first cap p w hl hx hg hp).mono ?_;rintro e w1 ⟨rfl,hb1⟩;obtain ⟨hc1,hf1,hz1⟩:=zAk hb1;(try simp at hz1);(try (have hy0:w.heap.size < w1.heap.size:=by omega));(try (have hy1:w.heap.size + 1 < w1.heap.size:=by omega));(try (have hy2:w.heap.size + 2 < w1.heap.size:=by omega)))
 go_ret
 exact ⟨rfl,hb1⟩
theorem zJQ (x:(Int × Int)) (B:Nat) (g:FuncId) (first cap:Array Value) (q:Bool) (w:World) (hB:B < w.heap.size) (hc:w.cell? ⟨B,0,none⟩=some (.func (.func g) first cap))
  (hg:∀ args w,Sem.run Tryz.prog (callFunc g args) w=.ok (.enter g args) w) (hm:zAc Tryz.prog w g first cap (.agg #[.int .i64 x.1,.int .i64 x.2]) q):zAc Tryz.prog w 225 #[] #[.pointer (some ⟨B,0,none⟩)] (.agg #[.int .i64 x.1,.int .i64 x.2]) !q:=by
 intro w' hb'
 have hc' : w'.cell? ⟨B,0,none⟩=some (.func (.func g) first cap):=(hb'.cell (p:=⟨B,0,none⟩) hB).trans hc
 have hBw:B < w'.heap.size:=Nat.lt_of_lt_of_le hB hb'.size
 clear hc
 show Calls Tryz.prog 225 #[.agg #[.int .i64 x.1,.int .i64 x.2],.pointer (some ⟨B,0,none⟩)] w' _
 go_enter Tryz.func225,Tryz.ntmps225
 go_wp2_with (refine (hm _ (hb'.trans ((Below.refl _ _).alloc hb'.size _) )).mono ?_;rintro e w1 ⟨rfl,hb1⟩)
 go_ret
 exact ⟨rfl,((Below.refl _ _).alloc (Nat.le_refl _) _).trans (hb1.mono (by simp))⟩
theorem zO5 (a:Option Addr) (xs:List (Int × Int)) (c:Nat) (g:FuncId) (first cap:Array Value) (p:(Int × Int)→Bool) (w:World) (hl:xs.length≤9223372036854775807) (hx:zAX w a xs)
  (hg:∀ args w,Sem.run Tryz.prog (callFunc g args) w=.ok (.enter g args) w) (hp:∀ x ∈ xs,zAc Tryz.prog w g first cap (.agg #[.int .i64 x.1,.int .i64 x.2]) (p x)) :
  Calls Tryz.prog 174 #[.slice a xs.length c,.func (.func g) first cap] w fun e w' => e=.returned (.bool (xs.all p))∧Below w.heap.size w w':=by
 have e1:xs.all p = !(xs.any fun x => !p x):=by rw [List.all_eq_not_any_not]
 rw [e1]
 have hb0:Below w.heap.size w (w.alloc (.cells #[.func (.func g) first cap] 284)):=(Below.refl _ _).alloc (Nat.le_refl _) _
 go_enter Tryz.func174,Tryz.ntmps174
 go_wp2_with (go_at_call 224;refine (zEe a xs c 225 #[] #[.pointer (some ⟨w.heap.size,0,none⟩)] (fun x => !p x) _ hl (hx.below hb0) (enters Tryz.func225 (by kernel_rfl) rfl) (fun x hxx => zJQ x w.heap.size g first cap (p x) _ (by simp) (by rw [World.cell?_alloc_at _ _ _ _ rfl];rfl) hg ((hp x hxx).below hb0))).mono ?_;rintro e w1 ⟨rfl,hb1⟩;obtain ⟨hc1,hf1,hz1⟩:=zAk hb1;(try simp at hz1);(try (have hy0:w.heap.size < w1.heap.size:=by omega));(try (have hy1:w.heap.size + 1 < w1.heap.size:=by omega));(try (have hy2:w.heap.size + 2 < w1.heap.size:=by omega)))
 go_ret
 exact ⟨by simp,hb0.trans (hb1.mono (by simp))⟩
def zOF (s:Int) (x:Int × Int × Int):Bool:=(decide (1≤x.1) && decide (x.1≤s - 1)) && (decide (0≤x.2.1) && decide (x.2.1≤s - 1)) && (decide (0≤x.2.2) && decide (x.2.2≤s - 1))
def zHr (n:Nat) (x:Int):Bool:=decide (0≤x) && decide (x≤(n:Int) - 1)
def zA7 (s wo:Int) (ks:List (Int × Int × Int)) (ds:List Int):Int :=
 if 5 < (ks.length:Int)∨8 < (ds.length:Int) then 3
 else if (13≤s∧s≤41)∧zC9 s.toNat s.toNat=true∧(1≤wo∧wo≤s)∧ks≠[]∧ds≠[] ∧
  ks.all (zOF s)=true∧ds.all (zHr ks.length)=true then 0
 else 1
theorem zM3 (s wo:Int) (ak:Option Addr) (ks:List (Int × Int × Int)) (ck:Nat) (ad:Option Addr) (ds:List Int) (cd:Nat) (x:Int × Int × Int) (w:World) (h0:0≤s) (h1:s≤1000):zAc Tryz.prog w 217 #[.agg #[.int .i64 s,.int .i64 wo,.slice ak ks.length ck,.slice ad ds.length cd]] #[] (.agg #[.int .i64 x.1,.int .i64 x.2.1,.int .i64 x.2.2]) (zOF s x) :=
 fun w1 _ => zPX s wo x.1 x.2.1 x.2.2 _ _ w1 h0 h1
theorem zLv (s wo:Int) (ak:Option Addr) (ks:List (Int × Int × Int)) (ck:Nat) (ad:Option Addr) (ds:List Int) (cd:Nat) (x:Int) (w:World) (h:ks.length≤1000):zAc Tryz.prog w 218 #[.agg #[.int .i64 s,.int .i64 wo,.slice ak ks.length ck,.slice ad ds.length cd]] #[] (.int .i64 x) (zHr ks.length x) :=
 fun w1 _ => zLw s wo x ak ad ks.length ck ds.length cd w1 h
theorem zEU (s wo:Int) (ak:Option Addr) (ks:List (Int × Int × Int)) (ck:Nat) (ad:Option Addr) (ds:List Int) (cd:Nat) (w:World) (hk:zBX w ak ks) (hd:IntsAt w ad ds) (lk:ks.length≤1000) (ld:ds.length≤1000) :
  Calls Tryz.prog 172 #[.agg #[.int .i64 s,.int .i64 wo,.slice ak ks.length ck,.slice ad ds.length cd]] w fun e w' => e=.returned (.int .i64 (zA7 s wo ks ds))∧Below w.heap.size w w':=by
 go_enter Tryz.func172,Tryz.ntmps172
 go_wp2
 (refine zAC 6 (by kernel_rfl) (by kernel_rfl) ?_;simp only [zzA,zzB,zzC,zzD];(repeat (go_big_quiet_step ((fail))));refine wpQuiet_nil ?_;rintro _ ⟨ex,rfl⟩;have hex:=ex.below;have hexz:=ex.size;(try simp at hexz);(try (have hy0:w.heap.size < ex.to.heap.size:=by omega));(try (have hy1:w.heap.size + 1 < ex.to.heap.size:=by omega));(try (have hy2:w.heap.size + 2 < ex.to.heap.size:=by omega)))
 go_wp2_with (first
  | (go_at_call 219;refine (zAm _ _ _ _).mono ?_;rintro e w1 ⟨rfl,rfl⟩)
  | (go_at_call 220;refine (zLk s _ (by omega) (by omega)).mono ?_;rintro e w1 ⟨rfl,rfl⟩)
  | (go_at_call 221;refine (zPh ak ks ck 217 #[.agg #[.int .i64 s,.int .i64 wo,.slice ak ks.length ck,.slice ad ds.length cd]] #[] (zOF s) _ (by omega) (hk.below (by exact zzL)) (enters Tryz.func217 (by kernel_rfl) rfl) (fun x _ => zM3 s wo ak ks ck ad ds cd x _ (by omega) (by omega))).mono ?_;rintro e w1 ⟨rfl,hb1⟩;obtain ⟨hc1,hf1,hz1⟩:=zAk hb1;(try simp at hz1);(try (have hy0:w.heap.size < w1.heap.size:=by omega));(try (have hy1:w.heap.size + 1 < w1.heap.size:=by omega));(try (have hy2:w.heap.size + 2 < w1.heap.size:=by omega));cases hka:ks.all (zOF s))
  | (go_at_call 222;refine (zJP ad ds cd 218 #[.agg #[.int .i64 s,.int .i64 wo,.slice ak ks.length ck,.slice ad ds.length cd]] #[] (zHr ks.length) _ (by omega) (hd.below (by exact zzL)) (enters Tryz.func218 (by kernel_rfl) rfl) (fun x _ => zLv s wo ak ks ck ad ds cd x _ lk)).mono ?_;rintro e w1 ⟨rfl,hb1⟩;obtain ⟨hc1,hf1,hz1⟩:=zAk hb1;(try simp at hz1);(try (have hy0:w.heap.size < w1.heap.size:=by omega));(try (have hy1:w.heap.size + 1 < w1.heap.size:=by omega));(try (have hy2:w.heap.size + 2 < w1.heap.size:=by omega));cases hda:ds.all (zHr ks.length)))
 all_goals go_ret
 all_goals (refine ⟨?_,by exact zzL⟩)
 all_goals (first | (simp [zA7, *];done) | (simp [zA7, *];omega) | (exfalso;clear hk hd;simp_all;done) | go_ways)
theorem zCq:(Tryz.prog.info? 3).map (fun i => (i.zero,i.size,i.bytes))=some (some (.int .i64 0),1,8):=by kernel_rfl
theorem zGM:Elem Tryz.prog 22 3 (.int .i64 0) 1 8:=⟨Tryz.underlying22,info_parts zCq,rfl,by decide⟩
def upTo (F:Nat→Int) (k:Nat):List Int:=(List.range k).map F
theorem zF0 (F:Nat→Int) (k:Nat):upTo F (k + 1)=upTo F k ++ [F k]:=by simp [upTo,List.range_succ]
theorem zJW (F:Nat→Int) (k:Nat):(upTo F k).length=k:=by simp [upTo]
def zFQ (B:Nat) (l:List Int) (err:Int) (e:Ending) (w' : World):Prop:=∃ a c,e=.returned (.tuple #[.slice a l.length c,.int .i64 err])∧OwnL 3 1 B w' a c l.length (l.map (Value.int .i64))
theorem zFQ.err {B:Nat} {err:Int} {w' : World}:zFQ B [] err (.returned (.tuple #[.slice none 0 0,.int .i64 err])) w':=⟨none,0,rfl,OwnL.nil _ _ _ _⟩
def zHy (nk nd:Nat) (x:Int × Int):Bool:=zHr nk x.1 && zHr nd x.2
theorem zNt (s wo:Int) (ak:Option Addr) (ks:List (Int × Int × Int)) (ck:Nat) (ad:Option Addr) (ds:List Int) (cd:Nat) (x:Int × Int) (w:World) (lk:ks.length≤1000) (ld:ds.length≤1000) :
  Calls Tryz.prog 173 #[.agg #[.int .i64 s,.int .i64 wo,.slice ak ks.length ck,.slice ad ds.length cd],.agg #[.int .i64 x.1,.int .i64 x.2]] w fun e w' => e=.returned (.bool (zHy ks.length ds.length x))∧Below w.heap.size w w':=by
 cases h1:zHr ks.length x.1
 all_goals
  unfold zHy
  rw [h1]
  have H1:=Lib.hid h1
  go_enter Tryz.func173,Tryz.ntmps173
  go_wp2_with (first
   | (go_at_call 218;refine (zLw s wo x.1 ak ad ks.length ck ds.length cd _ lk).mono ?_;rintro e w1 ⟨rfl,hb1⟩;obtain ⟨hc1,hf1,hz1⟩:=zAk hb1;(try simp at hz1);(try (have hy0:w.heap.size < w1.heap.size:=by omega));(try (have hy1:w.heap.size + 1 < w1.heap.size:=by omega));(try (have hy2:w.heap.size + 2 < w1.heap.size:=by omega));rw [show (decide (0≤x.1) && decide (x.1≤(ks.length:Int) - 1))=_ from H1.out])
   | (go_at_call 223;refine (zP9 s wo x.2 ak ad ks.length ck ds.length cd _ ld).mono ?_;rintro e w1 ⟨rfl,hb1⟩;obtain ⟨hc1,hf1,hz1⟩:=zAk hb1;(try simp at hz1);(try (have hy0:w.heap.size < w1.heap.size:=by omega));(try (have hy1:w.heap.size + 1 < w1.heap.size:=by omega));(try (have hy2:w.heap.size + 2 < w1.heap.size:=by omega))))
  go_ret
  exact ⟨by simp [zHr],by exact zzL⟩
def zDO (s wo:Int) (ks:List (Int × Int × Int)) (ds:List Int) (lost:List (Int × Int)):Int :=
 if zA7 s wo ks ds≠0 then zA7 s wo ks ds
 else if 6 < (lost.length:Int) then 3
 else if lost.all (zHy ks.length ds.length)=false then 2
 else 0
theorem zG7 (s wo:Int) (ak:Option Addr) (ks:List (Int × Int × Int)) (ck:Nat) (ad:Option Addr) (ds:List Int) (cd:Nat) (al:Option Addr) (lost:List (Int × Int)) (cl:Nat) (w:World) (hk:zBX w ak ks) (hd:IntsAt w ad ds) (lk:ks.length≤1000) (ld:ds.length≤1000) (hl:zAX w al lost) (ll:lost.length≤1000) :
  Calls Tryz.prog 115 #[.agg #[.int .i64 s,.int .i64 wo,.slice ak ks.length ck,.slice ad ds.length cd],.slice al lost.length cl] w fun e w' => e=.returned (.int .i64 (zDO s wo ks ds lost))∧Below w.heap.size w w':=by
 by_cases hbk:zA7 s wo ks ds=0
 ·have Hbk:=Lib.hid hbk
  go_enter Tryz.func115,Tryz.ntmps115
  go_wp2_with (first
   | (go_at_call 172;refine (zEU s wo ak ks ck ad ds cd _ (hk.below (by exact zzL)) (hd.below (by exact zzL)) lk ld).mono ?_;rintro e w1 ⟨rfl,hb1⟩;obtain ⟨hc1,hf1,hz1⟩:=zAk hb1;(try simp at hz1);(try (have hy0:w.heap.size < w1.heap.size:=by omega));(try (have hy1:w.heap.size + 1 < w1.heap.size:=by omega));(try (have hy2:w.heap.size + 2 < w1.heap.size:=by omega)))
   | (go_at_call 174;refine (zO5 al lost cl 173 #[.agg #[.int .i64 s,.int .i64 wo,.slice ak ks.length ck,.slice ad ds.length cd]] #[] (zHy ks.length ds.length) _ (by omega) (hl.below (by exact zzL)) (enters Tryz.func173 (by kernel_rfl) rfl) (fun x _ w1 _ => zNt s wo ak ks ck ad ds cd x w1 lk ld)).mono ?_;rintro e w1 ⟨rfl,hb1⟩;obtain ⟨hc1,hf1,hz1⟩:=zAk hb1;(try simp at hz1);(try (have hy0:w.heap.size < w1.heap.size:=by omega));(try (have hy1:w.heap.size + 1 < w1.heap.size:=by omega));(try (have hy2:w.heap.size + 2 < w1.heap.size:=by omega));cases hpa:lost.all (zHy ks.length ds.length)))
  all_goals go_ret
  all_goals (refine ⟨?_,by exact zzL⟩)
  all_goals (simp [zDO, *];done)
 ·have e1:zDO s wo ks ds lost=zA7 s wo ks ds:=by unfold zDO;rw [if_pos hbk]
  rw [e1]
  have hne:(zA7 s wo ks ds != 0)=true:=by simpa using hbk
  clear hbk e1
  go_enter Tryz.func115,Tryz.ntmps115
  go_wp2_with (go_at_call 172;refine (zEU s wo ak ks ck ad ds cd _ (hk.below (by exact zzL)) (hd.below (by exact zzL)) lk ld).mono ?_;rintro e w1 ⟨rfl,hb1⟩;obtain ⟨hc1,hf1,hz1⟩:=zAk hb1;(try simp at hz1);(try (have hy0:w.heap.size < w1.heap.size:=by omega));(try (have hy1:w.heap.size + 1 < w1.heap.size:=by omega));(try (have hy2:w.heap.size + 2 < w1.heap.size:=by omega)))
  go_ret
  exact ⟨rfl,by exact zzL⟩
def zEb (key f:Int) (x:Int × Int):Int:=if x.1=key∧(f = -1∨x.2 < f) then x.2 else f
def hadN (l:List (Int × Int)) (key:Int):Int:=l.foldl (zEb key) (-1)
theorem zMf (l:List (Int × Int)) (key:Int) (k:Nat) (hk:k < l.length):hadN (l.take (k + 1)) key=zEb key (hadN (l.take k) key) l[k]:=by
 unfold hadN
 rw [List.take_succ_eq_append_getElem hk,List.foldl_append]
 rfl
theorem zJB (al:Option Addr) (l:List (Int × Int)) (cl:Nat) (key:Int) (w:World) (hl:zAX w al l) (ll:l.length≤1000) :
  Calls Tryz.prog 116 #[.slice al l.length cl,.int .i64 key] w fun e w' => e=.returned (.int .i64 (hadN l key))∧Below w.heap.size w w':=by
 go_enter Tryz.func116,Tryz.ntmps116
 go_wp2
 go_loopw [5,7,10] (fun f _ i wr => ∃ k:Nat,k≤l.length∧i=.int .i64 k∧f=.int .i64 (hadN (l.take k) key)∧Below w.heap.size w wr) (fun _ _ i _ => l.length - (intOf i).toNat)
 case atStart => exact ⟨0,Nat.zero_le _,rfl,rfl,Below.refl _ _⟩
 case round =>
  obtain ⟨k,hk,rfl,rfl,hb⟩:=hrel
  by_cases hlt:k < l.length
  ·obtain ⟨b,off,rfl,hbl,h0,h1⟩:=(hl.below hb) k hlt
   have hst:=zMf l key k hlt
   have Hst:=Lib.hid hst
   clear hst
   obtain ⟨f,hf⟩:∃ f,hadN (l.take k) key=f:=⟨_,rfl⟩
   rw [hf] at Hst ⊢
   have hww:w.heap.size≤wr.heap.size:=hb.size
   by_cases c1:l[k].1=key
   ·by_cases c2:f = -1
    ·have d1:(l[k].1 == key)=true:=by simpa using c1
     have d2:(f == -1)=true:=by simpa using c2
     have e1:zEb key f l[k]=l[k].2:=if_pos ⟨c1,.inl c2⟩
     rw [e1] at Hst
     clear c1 c2 hf e1
     go_wp2
     go_roundw
     case rel => exact ⟨k + 1,by omega,by go_num,by rw [Hst.out],by exact zzL⟩
     case measure => simp [intOf];omega
    ·have d1:(l[k].1 == key)=true:=by simpa using c1
     have d2:(f == -1)=false:=by simpa using c2
     by_cases c3:l[k].2 < f
     ·have d3:decide (l[k].2 < f)=true:=by simpa using c3
      have e1:zEb key f l[k]=l[k].2:=if_pos ⟨c1,.inr c3⟩
      rw [e1] at Hst
      clear c1 c2 hf e1
      go_wp2
      go_roundw
      case rel => exact ⟨k + 1,by omega,by go_num,by rw [Hst.out],by exact zzL⟩
      case measure => simp [intOf];omega
     ·have d3:decide (l[k].2 < f)=false:=by simpa using c3
      have e1:zEb key f l[k]=f:=if_neg (by simp [c2,c3])
      rw [e1] at Hst
      clear c1 c2 hf e1
      go_wp2
      go_roundw
      case rel => exact ⟨k + 1,by omega,by go_num,by rw [Hst.out],by exact zzL⟩
      case measure => simp [intOf];omega
   ·have d1:(l[k].1 == key)=false:=by simpa using c1
    have e1:zEb key f l[k]=f:=if_neg (by simp [c1])
    rw [e1] at Hst
    clear c1 hf e1
    go_wp2
    go_roundw
    case rel => exact ⟨k + 1,by omega,by go_num,by rw [Hst.out],by exact zzL⟩
    case measure => simp [intOf];omega
  ·obtain rfl:k=l.length:=by omega
   rw [List.take_length]
   go_wp2
   go_ret
   exact ⟨rfl,hb⟩
def zP2 (lost:List (Int × Int)) (key:Int) (day:Int):Int:=if hadN lost key = -1 then -1 else max (hadN lost key) day
def zMp (ds:List Int) (lost:List (Int × Int)):List Int:=upTo (fun i => zP2 lost (ds.getD i 0) i) ds.length
def zMq (s wo:Int) (ks:List (Int × Int × Int)) (ds:List Int) (lost:List (Int × Int)):List Int:=if zDO s wo ks ds lost=0 then zMp ds lost else []
theorem zOs (s wo:Int) (ak:Option Addr) (ks:List (Int × Int × Int)) (ck:Nat) (ad:Option Addr) (ds:List Int) (cd:Nat) (al:Option Addr) (lost:List (Int × Int)) (cl:Nat) (w:World) (hk:zBX w ak ks) (hd:IntsAt w ad ds) (lk:ks.length≤1000) (ld:ds.length≤1000) (hl:zAX w al lost) (ll:lost.length≤1000) :
  Calls Tryz.prog 64 #[.agg #[.int .i64 s,.int .i64 wo,.slice ak ks.length ck,.slice ad ds.length cd],.slice al lost.length cl] w fun e w' => zFQ w.heap.size (zMq s wo ks ds lost) (zDO s wo ks ds lost) e w'∧Below w.heap.size w w':=by
 by_cases he:zDO s wo ks ds lost=0
 ·have He:=Lib.hid he
  go_enter Tryz.func64,Tryz.ntmps64
  go_wp2_with (go_at_call 115;refine (zG7 s wo ak ks ck ad ds cd al lost cl _ (hk.below (by exact zzL)) (hd.below (by exact zzL)) lk ld (hl.below (by exact zzL)) ll).mono ?_;rintro e w1 ⟨rfl,hb1⟩;obtain ⟨hc1,hf1,hz1⟩:=zAk hb1;(try simp at hz1);(try (have hy0:w.heap.size < w1.heap.size:=by omega));(try (have hy1:w.heap.size + 1 < w1.heap.size:=by omega));(try (have hy2:w.heap.size + 2 < w1.heap.size:=by omega)))
  have hwB:Below w.heap.size w w1:=by exact zzL
  have hres:Hid (zMq s wo ks ds lost=zMp ds lost):=if_pos he
  clear he
  obtain ⟨F,hF⟩:∃ F:Nat→Int,(fun i:Nat => zP2 lost (ds.getD i 0) i)=F:=⟨_,rfl⟩
  have HF:=Lib.hid hF
  clear hF
  obtain ⟨wL,hwL⟩:∃ x:World,x=w1:=⟨_,rfl⟩
  subst hwL
  go_loopw [7,8,9,10,20] (fun v _ _ _ i wr => ∃ (k:Nat) (a' : Option Addr) (c' : Nat),k≤ds.length∧i=.int .i64 k∧v=.slice a' k c'∧OwnL 3 1 wL.heap.size wr a' c' k ((upTo F k).map (Value.int .i64))∧Below wL.heap.size wL wr)
   (fun _ _ _ _ i _ => ds.length - (intOf i).toNat)
  case atStart => exact ⟨0,none,0,Nat.zero_le _,rfl,rfl,OwnL.nil _ _ _ _,Below.refl _ _⟩
  case round =>
   obtain ⟨k,a',c',hk',rfl,rfl,hown,hbel⟩:=hrel
   have hwr:Below w.heap.size w wr:=hwB.trans (hbel.mono hwB.size)
   have hzz:wL.heap.size≤wr.heap.size:=hbel.size
   by_cases hlt:k < ds.length
   ·obtain ⟨b,off,rfl,hbl,hc⟩:=(hd.below hwr) k hlt
    have hfr:F k=if hadN lost ds[k] = -1 then -1 else max (hadN lost ds[k]) k:=by rw [← HF.out];simp [zP2,hlt]
    have Hfr:=Lib.hid hfr
    clear hfr
    obtain ⟨f,hf⟩:∃ f,hadN lost ds[k]=f:=⟨_,rfl⟩
    rw [hf] at Hfr
    by_cases c1:f = -1
    ·have d1:(f != -1)=false:=by simpa using c1
     have hv:F k=f:=by rw [Hfr.out,if_pos c1,c1]
     have Hv:=Lib.hid hv
     clear hv c1
     go_wp2_with (first
      | (at_builtin;refine zBn zGM rfl _ _ rfl _ _ _ _ _ rfl (hown.kept hb1) 1 1 rfl rfl (fun u hu => ?c1) ?c2 ?c3 ?c4 ?_)
      | (go_at_call 116;refine (zJB al lost cl ds[k] _ (hl.below hwr) ll).mono ?_;rw [hf];rintro e w1 ⟨rfl,hb1⟩;obtain ⟨hc1,hf1,hz1⟩:=zAk hb1))
     case c1 => simp at hu;subst hu;rfl
     case c2 => unfold maxLen;omega
     case c3 => omega
     case c4 => omega
     intro a2 c2 w2 hown2 hb2
     go_wp2
     go_roundw
     case rel => exact ⟨k + 1,a2,c2,by omega,by go_num,rfl,by rw [zF0,List.map_append,Hv.out];exact hown2,hbel.trans ((hb1.mono hzz).trans hb2)⟩
     case measure => simp [intOf];omega
    ·have d1:(f != -1)=true:=by simpa using c1
     by_cases cm:f < (k:Int)
     ·have hv:F k=(k:Int):=by rw [Hfr.out,if_neg c1,Int.max_eq_right (by omega)]
      have Hv:=Lib.hid hv
      clear hv c1
      go_wp2_with (first
       | (at_builtin;refine zBn zGM rfl _ _ rfl _ _ _ _ _ rfl (hown.kept hb1) 1 1 rfl rfl (fun u hu => ?d1) ?d2 ?d3 ?d4 ?_)
       | (go_at_call 116;refine (zJB al lost cl ds[k] _ (hl.below hwr) ll).mono ?_;rw [hf];rintro e w1 ⟨rfl,hb1⟩;obtain ⟨hc1,hf1,hz1⟩:=zAk hb1))
      case d1 => simp at hu;subst hu;rfl
      case d2 => unfold maxLen;omega
      case d3 => omega
      case d4 => omega
      intro a2 c2 w2 hown2 hb2
      go_wp2
      go_roundw
      case rel => exact ⟨k + 1,a2,c2,by omega,by go_num,rfl,by rw [zF0,List.map_append,Hv.out];exact hown2,hbel.trans ((hb1.mono hzz).trans hb2)⟩
      case measure => simp [intOf];omega
     ·have cm2:(k:Int)≤f:=by omega
      have hv:F k=f:=by rw [Hfr.out,if_neg c1,Int.max_eq_left (by omega)]
      have Hv:=Lib.hid hv
      clear hv c1
      go_wp2_with (first
       | (at_builtin;refine zBn zGM rfl _ _ rfl _ _ _ _ _ rfl (hown.kept hb1) 1 1 rfl rfl (fun u hu => ?e1) ?e2 ?e3 ?e4 ?_)
       | (go_at_call 116;refine (zJB al lost cl ds[k] _ (hl.below hwr) ll).mono ?_;rw [hf];rintro e w1 ⟨rfl,hb1⟩;obtain ⟨hc1,hf1,hz1⟩:=zAk hb1))
      case e1 => simp at hu;subst hu;rfl
      case e2 => unfold maxLen;omega
      case e3 => omega
      case e4 => omega
      intro a2 c2 w2 hown2 hb2
      go_wp2
      go_roundw
      case rel => exact ⟨k + 1,a2,c2,by omega,by go_num,rfl,by rw [zF0,List.map_append,Hv.out];exact hown2,hbel.trans ((hb1.mono hzz).trans hb2)⟩
      case measure => simp [intOf];omega
   ·obtain rfl:k=ds.length:=by omega
    go_wp2
    go_ret2
    refine ⟨?_,hwr⟩
    rw [hres.out,He.out]
    unfold zMp
    rw [HF.out]
    exact ⟨a',c',by rw [zJW];rfl,by rw [zJW];exact hown.base_le hwB.size⟩
 ·have e2:zMq s wo ks ds lost=[]:=if_neg he
  rw [e2]
  have hne:(zDO s wo ks ds lost != 0)=true:=by simpa using he
  clear he e2
  go_enter Tryz.func64,Tryz.ntmps64
  go_wp2_with (go_at_call 115;refine (zG7 s wo ak ks ck ad ds cd al lost cl _ (hk.below (by exact zzL)) (hd.below (by exact zzL)) lk ld (hl.below (by exact zzL)) ll).mono ?_;rintro e w1 ⟨rfl,hb1⟩;obtain ⟨hc1,hf1,hz1⟩:=zAk hb1;(try simp at hz1);(try (have hy0:w.heap.size < w1.heap.size:=by omega));(try (have hy1:w.heap.size + 1 < w1.heap.size:=by omega));(try (have hy2:w.heap.size + 2 < w1.heap.size:=by omega)))
  go_ret2
  exact ⟨zFQ.err,by exact zzL⟩
theorem _root_.Go.Proofs.YticjeianiahppaaGreatDoor.OwnL.setCell {E:TypeId} {size base:Nat} {w:World} {a:Option Addr} {c n:Nat} {xs:List Value} (h:OwnL E size base w a c n xs) {p:Addr} (hp:p.block < base) (u:Value):OwnL E size base (w.setCell p u) a c n xs:=by
 refine ⟨h.1,?_⟩
 rcases h.2 with hn | ⟨g,cap,cur,hv,hbg,hg,rest⟩
 ·exact .inl hn
 ·exact .inr ⟨g,cap,cur,hv,hbg,by rw [Below.heap_setCell _ _ _ _ (by omega)];exact hg,rest⟩
end Go.Proofs.YticjeianiahppaaGreatDoor.Cph
