/- The session book: contracts of the program and of the laws' helpers, joined (Coa). -/
import Derived.Test.YticjeianiahppaaGreatDoorBA
import Derived.Deep.RegionHeld3
import Derived.Deep.AppendLies
import Derived.RangeFuncNested
import Derived.RangeFuncBound
import Derived.RangeFuncCalls
import Derived.RangeFuncLeaves
import Derived.Shelf.Abstract
import Derived.Shelf.RegionOpen
import Derived.OwnWalkIn
import Derived.TacticsInMore
import Derived.LoopNIn
import Derived.LoopIn
import Derived.RangeFuncBox
import Derived.Maps.AppendAt
import Derived.DeepKeys4
import Derived.Maps.OwnSet
import Derived.Deep.DeepCutAuto
import Derived.Laws.Tables
import Derived.Laws.Rows
import Derived.Laws.CopyOwn
import Derived.ProofKit
import Derived.OpenShut
import Derived.ShutString
import Derived.ChangeOld
import Derived.Deep.Slices
import Derived.Deep.Fields
import Derived.ChangeSame
import Derived.Lib.SmallJoins
import Derived.SizedLaws
import Derived.Deep.WholeRow
set_option linter.unusedVariables false
set_option linter.unusedSimpArgs false
set_option linter.unnecessarySimpa false
set_option maxRecDepth 100000
set_option maxHeartbeats 40000000
namespace Go.Proofs.YticjeianiahppaaGreatDoor.Cps
open Go.RowKit Go.Flow
structure Leg where
 lo:Int
 hi:Int
 asl:List (Int × Int)
structure Route where
 legs:List Leg
 lossy:Bool
structure Post where
 sends:List Int
 routes:List Route
 pat:Int
def zBu (w:World) (a:Option Addr) (ls:List Leg):Prop :=
 ∀ k (h:k < ls.length),∃ b off ar c,a=some ⟨b,off,none⟩∧b < w.heap.size∧w.cell? ⟨b,off + k * 3,none⟩=some (.int .i64 ls[k].lo)∧w.cell? ⟨b,off + k * 3 + 1,none⟩=some (.int .i64 ls[k].hi)∧w.cell? ⟨b,off + k * 3 + 2,none⟩=some (.slice ar ls[k].asl.length c)∧zAX w ar ls[k].asl
theorem zBu.below {w w' : World} {a:Option Addr} {ls:List Leg} (h:zBu w a ls) (hb:Below w.heap.size w w'):zBu w' a ls:=fun k hk =>
 let ⟨b,off,ar,c,ha,hlt,h0,h1,h2,h3⟩:=h k hk
 ⟨b,off,ar,c,ha,Nat.lt_of_lt_of_le hlt hb.size,(hb.cell (p:=⟨b,_,none⟩) hlt).trans h0,(hb.cell (p:=⟨b,_,none⟩) hlt).trans h1,(hb.cell (p:=⟨b,_,none⟩) hlt).trans h2,h3.below hb⟩
theorem zBu.nil (w:World) (a:Option Addr):zBu w a []:=fun k hk => absurd hk (Nat.not_lt_zero k)
def zAb (w:World) (a:Option Addr) (rs:List Route):Prop :=
 ∀ k (h:k < rs.length),∃ b off al c,a=some ⟨b,off,none⟩∧b < w.heap.size∧w.cell? ⟨b,off + k * 2,none⟩=some (.slice al rs[k].legs.length c)∧w.cell? ⟨b,off + k * 2 + 1,none⟩=some (.bool rs[k].lossy)∧zBu w al rs[k].legs
theorem zAb.below {w w' : World} {a:Option Addr} {rs:List Route} (h:zAb w a rs) (hb:Below w.heap.size w w'):zAb w' a rs:=fun k hk =>
 let ⟨b,off,al,c,ha,hlt,h0,h1,h2⟩:=h k hk
 ⟨b,off,al,c,ha,Nat.lt_of_lt_of_le hlt hb.size,(hb.cell (p:=⟨b,_,none⟩) hlt).trans h0,(hb.cell (p:=⟨b,_,none⟩) hlt).trans h1,h2.below hb⟩
theorem zAb.nil (w:World) (a:Option Addr):zAb w a []:=fun k hk => absurd hk (Nat.not_lt_zero k)
def inR (n:Int) (r:Int × Int):Bool:=decide (r.1≤n) && decide (n≤r.2)
def zCk (r:Int × Int) (m:Int):Bool:=decide (0≤r.1) && decide (r.1≤r.2) && decide (r.2≤m)
def zDr (l:Leg) (h:Int):Bool:=l.asl.any (inR h)
def zDC (l:Leg):Bool:=zCk (l.lo,l.hi) 6 && l.asl.all (fun r => zCk r 30)
def zBv (r:Route):Bool:=decide (0 < r.legs.length) && r.legs.all zDC
def zBo (r:Route):Bool:=decide (r.legs.length≤3) && r.legs.all (fun l => decide (l.asl.length≤2))
def zDJ:List Int→Bool
 | [] => true
 | [_] => true
 | a :: b :: l => decide (a < b) && zDJ (b :: l)
def zA4 (p:Post):Int :=
 if 4 < p.sends.length∨3 < p.routes.length∨p.routes.all zBo=false then 3
 else if p.sends=[]∨p.routes=[]∨inR p.pat (0,30)=false∨p.sends.all (fun n => inR n (0,30))=false∨zDJ p.sends=false∨p.routes.all zBv=false then 1
 else 0
def awkN (l:Leg):Nat→Int→Int
 | 0,h => h
 | n + 1,h => if zDr l h then awkN l n (h + 1) else h
def awk (l:Leg) (h:Int):Int:=awkN l (31 - h).toNat h
theorem zIX {l:Leg} (hl:l.asl.all (fun r => zCk r 30)=true) {h:Int} (ha:zDr l h=true):0≤h∧h≤30:=by
 simp only [zDr,List.any_eq_true,inR,Bool.and_eq_true,decide_eq_true_eq] at ha
 obtain ⟨r,hr,h1,h2⟩:=ha
 have:=List.all_eq_true.1 hl r hr
 simp only [zCk,Bool.and_eq_true,decide_eq_true_eq] at this
 omega
theorem zNK {l:Leg} (hl:l.asl.all (fun r => zCk r 30)=true) {h:Int} (ha:zDr l h=true):awk l h=awk l (h + 1):=by
 have:=zIX hl ha
 unfold awk
 rw [show (31 - h).toNat=(31 - (h + 1)).toNat + 1 by omega]
 simp only [awkN,ha,if_true]
theorem zQW {l:Leg} {h:Int} (ha:zDr l h=false):awk l h=h:=by
 unfold awk
 cases (31 - h).toNat with
 | zero => rfl
 | succ n => simp [awkN,ha]
theorem zNL (l:Leg):∀ (n:Nat) (h:Int),h≤awkN l n h∧awkN l n h≤h + n
 | 0,h => by simp [awkN]
 | n + 1,h => by
  have:=zNL l n (h + 1)
  simp only [awkN]
  split <;> omega
theorem zGk (l:Leg) (h:Int):h≤awk l h∧(awk l h≤h∨awk l h≤31):=by
 have:=zNL l (31 - h).toNat h
 unfold awk
 omega
abbrev Hrs:=Nat→Bool
def zEy (s:Int):Hrs:=fun n => decide ((n:Int)=s)
def zEN (l:Leg) (S:Hrs):Hrs:=fun m => (List.range 101).any fun h => S h && (List.range (l.hi - l.lo + 1).toNat).any fun n => decide (awk l (h + l.lo + n)=m)
def zE1 (ls:List Leg) (s:Int):Hrs:=ls.foldl (fun S l => zEN l S) (zEy s)
def zH1 (S:Hrs) (m:Nat):Prop:=∀ n,S n=true→n≤m
theorem zOE {l:Leg} {S:Hrs} {m:Nat} (hl:zDC l=true) (hS:zH1 S m) (hm:30≤m):zH1 (zEN l S) (m + 6):=fun n hn => by
 simp only [zDC,zCk,Bool.and_eq_true,decide_eq_true_eq] at hl
 simp only [zEN,List.any_eq_true,Bool.and_eq_true,decide_eq_true_eq,List.mem_range] at hn
 obtain ⟨h,h1,h2,k,h3,h4⟩:=hn
 have:=hS h h2
 have:=zGk l (h + l.lo + k)
 omega
theorem zOD {l:Leg} {S:Hrs} {m:Nat} (hl:zDC l=true) (hS:zH1 S m) (hm:m≤94) (hm2:30≤m) (hne:∃ n,S n=true):∃ n,zEN l S n=true:=by
 obtain ⟨n,hn⟩:=hne
 have h1:=hS n hn
 simp only [zDC,zCk,Bool.and_eq_true,decide_eq_true_eq] at hl
 have:=zGk l (n + l.lo + (0:Nat))
 refine ⟨(awk l (n + l.lo + (0:Nat))).toNat,?_⟩
 simp only [zEN,List.any_eq_true,Bool.and_eq_true,decide_eq_true_eq,List.mem_range]
 exact ⟨n,by omega,hn,0,by omega,by omega⟩
theorem zE0:∀ (ls:List Leg) (S:Hrs) (m:Nat),ls.all zDC=true→zH1 S m→30≤m→m + 6 * ls.length≤94→(∃ n,S n=true) →
  zH1 (ls.foldl (fun S l => zEN l S) S) (m + 6 * ls.length)∧∃ n,ls.foldl (fun S l => zEN l S) S n=true
 | [],S,m,_,hS,_,_,hne => ⟨by simpa using hS,hne⟩
 | l :: ls,S,m,hall,hS,hm,hb,hne => by
  simp only [List.all_cons,Bool.and_eq_true] at hall
  simp only [List.length_cons] at hb
  have:=zE0 ls (zEN l S) (m + 6) hall.2 (zOE hall.1 hS hm) (by omega) (by omega) (zOD hall.1 hS (by omega) hm hne)
  simp only [List.foldl_cons,List.length_cons]
  rw [show m + 6 * (ls.length + 1)=m + 6 + 6 * ls.length by omega]
  exact this
theorem zKP {r:Route} (h1:zBo r=true) (h2:zBv r=true) {s:Int} (hs:0≤s∧s≤30):zH1 (zE1 r.legs s) 48∧∃ n,zE1 r.legs s n=true:=by
 simp only [zBo,zBv,Bool.and_eq_true,decide_eq_true_eq] at h1 h2
 have:=zE0 r.legs (zEy s) 30 h2.2 (fun n hn => by simp [zEy] at hn;omega) (by omega) (by omega) ⟨s.toNat,by simp [zEy];omega⟩
 refine ⟨fun n hn => ?_,this.2⟩
 have:=this.1 n hn
 omega
def zBK (S:Hrs):List Int:=((List.range 101).filter S).map (fun (n:Nat) => (n:Int))
structure Ent where
 num:Int
 at_:Int
 skip:Bool
deriving DecidableEq
def zCX (w:World) (a:Option Addr) (xs:List Ent):Prop :=
 ∀ k (h:k < xs.length),∃ b off,a=some ⟨b,off,none⟩∧b < w.heap.size∧w.cell? ⟨b,off + k * 3,none⟩=some (.int .i64 xs[k].num)∧w.cell? ⟨b,off + k * 3 + 1,none⟩=some (.int .i64 xs[k].at_)∧w.cell? ⟨b,off + k * 3 + 2,none⟩=some (.bool xs[k].skip)
theorem zCX.below {w w' : World} {a:Option Addr} {xs:List Ent} (h:zCX w a xs) (hb:Below w.heap.size w w'):zCX w' a xs:=fun k hk =>
 let ⟨b,off,ha,hlt,h0,h1,h2⟩:=h k hk
 ⟨b,off,ha,Nat.lt_of_lt_of_le hlt hb.size,(hb.cell (p:=⟨b,_,none⟩) hlt).trans h0,(hb.cell (p:=⟨b,_,none⟩) hlt).trans h1,(hb.cell (p:=⟨b,_,none⟩) hlt).trans h2⟩
theorem zCX.nil (w:World) (a:Option Addr):zCX w a []:=fun k hk => absurd hk (Nat.not_lt_zero k)
theorem zCr (a:Option Addr) (xs:List Int) (c:Nat) (g:FuncId) (first cap:Array Value) (p:Int→Bool) (w:World) (hl:xs.length≤9223372036854775807) (hx:IntsAt w a xs)
  (hg:∀ args w,Sem.run Tryz.prog (callFunc g args) w=.ok (.enter g args) w) (hp:∀ x ∈ xs,zAc Tryz.prog w g first cap (.int .i64 x) (p x)) :
  Calls Tryz.prog 262 #[.slice a xs.length c,.func (.func g) first cap] w fun e w' => e=.returned (.int .i64 (idxBy p xs 0))∧Below w.heap.size w w':=by
 go_enter Tryz.func262,Tryz.ntmps262
 go_wp2
 go_loopw [5,8] (fun _ i wr => ∃ k:Nat,k≤xs.length∧i=.int .i64 k∧Below w.heap.size w wr∧idxBy p xs 0=idxBy p (xs.drop k) k) (fun _ i _ => xs.length - (intOf i).toNat)
 case atStart => exact ⟨0,Nat.zero_le _,rfl,Below.refl _ _,by simp⟩
 case round =>
  obtain ⟨k,hk,rfl,hb,hi⟩:=hrel
  have Hi:=Lib.hid hi
  clear hi
  by_cases hlt:k < xs.length
  ·obtain ⟨b,off,rfl,hbl,hc⟩:=hx k hlt
   have hm:=hp xs[k] (List.getElem_mem hlt)
   have hc' : wr.cell? ⟨b,off + k,none⟩=some (.int .i64 (xs.getD k 0)):=(hb.cell (p:=⟨b,off + k,none⟩) hbl).trans hc
   clear hc
   go_wp2_with (refine (hm wr hb).mono ?_;rintro e w1 ⟨rfl,hb1⟩)
   ·have h1:p xs[k]=true:=by assumption
    go_ret
    exact ⟨by rw [Hi.out,idxBy_hit p xs k hlt h1];rfl,hb.trans (hb1.mono hb.size)⟩
   ·have h1:p xs[k]=false:=by assumption
    go_roundw
    case rel => exact ⟨k + 1,by omega,by go_num,hb.trans (hb1.mono hb.size),by rw [Hi.out,idxBy_miss p xs k hlt h1]⟩
    case measure => simp [intOf];omega
  ·go_wp2
   go_ret
   exact ⟨by rw [Hi.out,zBQ p xs k k (by omega)];rfl,hb⟩
theorem zBz (a:Option Addr) (xs:List Int) (c:Nat) (g:FuncId) (first cap:Array Value) (p:Int→Bool) (w:World) (hl:xs.length≤9223372036854775807) (hx:IntsAt w a xs)
  (hg:∀ args w,Sem.run Tryz.prog (callFunc g args) w=.ok (.enter g args) w) (hp:∀ x ∈ xs,zAc Tryz.prog w g first cap (.int .i64 x) (p x)) :
  Calls Tryz.prog 203 #[.slice a xs.length c,.func (.func g) first cap] w fun e w' => e=.returned (.bool (xs.any p))∧Below w.heap.size w w':=by
 rw [← zBJ p xs 0]
 have hi:=zBP p xs 0
 go_enter Tryz.func203,Tryz.ntmps203
 go_wp2_with (go_at_call 262;refine (zCr a xs c g first cap p w hl hx hg hp).mono ?_;rintro e w1 ⟨rfl,hb1⟩;obtain ⟨hc1,hf1,hz1⟩:=zAk hb1;(try simp at hz1);(try (have hy0:w.heap.size < w1.heap.size:=by omega));(try (have hy1:w.heap.size + 1 < w1.heap.size:=by omega));(try (have hy2:w.heap.size + 2 < w1.heap.size:=by omega)))
 go_ret
 exact ⟨rfl,hb1⟩
theorem zEj (x:Int) (B:Nat) (g:FuncId) (first cap:Array Value) (q:Bool) (w:World) (hB:B < w.heap.size) (hc:w.cell? ⟨B,0,none⟩=some (.func (.func g) first cap))
  (hg:∀ args w,Sem.run Tryz.prog (callFunc g args) w=.ok (.enter g args) w) (hm:zAc Tryz.prog w g first cap (.int .i64 x) q):zAc Tryz.prog w 204 #[] #[.pointer (some ⟨B,0,none⟩)] (.int .i64 x) !q:=by
 intro w' hb'
 have hc' : w'.cell? ⟨B,0,none⟩=some (.func (.func g) first cap):=(hb'.cell (p:=⟨B,0,none⟩) hB).trans hc
 have hBw:B < w'.heap.size:=Nat.lt_of_lt_of_le hB hb'.size
 clear hc
 show Calls Tryz.prog 204 #[.int .i64 x,.pointer (some ⟨B,0,none⟩)] w' _
 go_enter Tryz.func204,Tryz.ntmps204
 go_wp2_with (refine (hm _ hb').mono ?_;rintro e w1 ⟨rfl,hb1⟩)
 go_ret
 exact ⟨rfl,hb1⟩
theorem zJP (a:Option Addr) (xs:List Int) (c:Nat) (g:FuncId) (first cap:Array Value) (p:Int→Bool) (w:World) (hl:xs.length≤9223372036854775807) (hx:IntsAt w a xs)
  (hg:∀ args w,Sem.run Tryz.prog (callFunc g args) w=.ok (.enter g args) w) (hp:∀ x ∈ xs,zAc Tryz.prog w g first cap (.int .i64 x) (p x)) :
  Calls Tryz.prog 150 #[.slice a xs.length c,.func (.func g) first cap] w fun e w' => e=.returned (.bool (xs.all p))∧Below w.heap.size w w':=by
 have e1:xs.all p = !(xs.any fun x => !p x):=by rw [List.all_eq_not_any_not]
 rw [e1]
 have hb0:Below w.heap.size w (w.alloc (.cells #[.func (.func g) first cap] 255)):=(Below.refl _ _).alloc (Nat.le_refl _) _
 go_enter Tryz.func150,Tryz.ntmps150
 go_wp2_with (go_at_call 203;refine (zBz a xs c 204 #[] #[.pointer (some ⟨w.heap.size,0,none⟩)] (fun x => !p x) _ hl (hx.below hb0) (enters Tryz.func204 (by kernel_rfl) rfl) (fun x hxx => zEj x w.heap.size g first cap (p x) _ (by simp) (by rw [World.cell?_alloc_at _ _ _ _ rfl];rfl) hg ((hp x hxx).below hb0))).mono ?_;rintro e w1 ⟨rfl,hb1⟩;obtain ⟨hc1,hf1,hz1⟩:=zAk hb1;(try simp at hz1);(try (have hy0:w.heap.size < w1.heap.size:=by omega));(try (have hy1:w.heap.size + 1 < w1.heap.size:=by omega));(try (have hy2:w.heap.size + 2 < w1.heap.size:=by omega)))
 go_ret
 exact ⟨by simp,hb0.trans (hb1.mono (by simp))⟩
theorem zFo (a:Option Addr) (xs:List (Int × Int)) (c:Nat) (g:FuncId) (first cap:Array Value) (p:(Int × Int)→Bool) (w:World) (hl:xs.length≤9223372036854775807) (hx:zAX w a xs)
  (hg:∀ args w,Sem.run Tryz.prog (callFunc g args) w=.ok (.enter g args) w) (hp:∀ x ∈ xs,zAc Tryz.prog w g first cap (.agg #[.int .i64 x.1,.int .i64 x.2]) (p x)) :
  Calls Tryz.prog 266 #[.slice a xs.length c,.func (.func g) first cap] w fun e w' => e=.returned (.int .i64 (idxBy p xs 0))∧Below w.heap.size w w':=by
 go_enter Tryz.func266,Tryz.ntmps266
 go_wp2
 go_loopw [5,8] (fun _ i wr => ∃ k:Nat,k≤xs.length∧i=.int .i64 k∧Below w.heap.size w wr∧idxBy p xs 0=idxBy p (xs.drop k) k) (fun _ i _ => xs.length - (intOf i).toNat)
 case atStart => exact ⟨0,Nat.zero_le _,rfl,Below.refl _ _,by simp⟩
 case round =>
  obtain ⟨k,hk,rfl,hb,hi⟩:=hrel
  have Hi:=Lib.hid hi
  clear hi
  by_cases hlt:k < xs.length
  ·obtain ⟨b,off,rfl,hbl,h0,h1⟩:=hx k hlt
   have hm:=hp xs[k] (List.getElem_mem hlt)
   have h0':=(hb.cell (p:=⟨b,off + k * 2,none⟩) hbl).trans h0
   have h1':=(hb.cell (p:=⟨b,off + k * 2 + 1,none⟩) hbl).trans h1
   clear h0 h1
   go_wp2_with (refine (hm wr hb).mono ?_;rintro e w1 ⟨rfl,hb1⟩)
   ·have h1:p xs[k]=true:=by assumption
    go_ret
    exact ⟨by rw [Hi.out,idxBy_hit p xs k hlt h1];rfl,hb.trans (hb1.mono hb.size)⟩
   ·have h1:p xs[k]=false:=by assumption
    go_roundw
    case rel => exact ⟨k + 1,by omega,by go_num,hb.trans (hb1.mono hb.size),by rw [Hi.out,idxBy_miss p xs k hlt h1]⟩
    case measure => simp [intOf];omega
  ·go_wp2
   go_ret
   exact ⟨by rw [Hi.out,zBQ p xs k k (by omega)];rfl,hb⟩
theorem zC4 (a:Option Addr) (xs:List (Int × Int)) (c:Nat) (g:FuncId) (first cap:Array Value) (p:(Int × Int)→Bool) (w:World) (hl:xs.length≤9223372036854775807) (hx:zAX w a xs)
  (hg:∀ args w,Sem.run Tryz.prog (callFunc g args) w=.ok (.enter g args) w) (hp:∀ x ∈ xs,zAc Tryz.prog w g first cap (.agg #[.int .i64 x.1,.int .i64 x.2]) (p x)) :
  Calls Tryz.prog 207 #[.slice a xs.length c,.func (.func g) first cap] w fun e w' => e=.returned (.bool (xs.any p))∧Below w.heap.size w w':=by
 rw [← zBJ p xs 0]
 have hi:=zBP p xs 0
 go_enter Tryz.func207,Tryz.ntmps207
 go_wp2_with (go_at_call 266;refine (zFo a xs c g first cap p w hl hx hg hp).mono ?_;rintro e w1 ⟨rfl,hb1⟩;obtain ⟨hc1,hf1,hz1⟩:=zAk hb1;(try simp at hz1);(try (have hy0:w.heap.size < w1.heap.size:=by omega));(try (have hy1:w.heap.size + 1 < w1.heap.size:=by omega));(try (have hy2:w.heap.size + 2 < w1.heap.size:=by omega)))
 go_ret
 exact ⟨rfl,hb1⟩
theorem zI2 (x:(Int × Int)) (B:Nat) (g:FuncId) (first cap:Array Value) (q:Bool) (w:World) (hB:B < w.heap.size) (hc:w.cell? ⟨B,0,none⟩=some (.func (.func g) first cap))
  (hg:∀ args w,Sem.run Tryz.prog (callFunc g args) w=.ok (.enter g args) w) (hm:zAc Tryz.prog w g first cap (.agg #[.int .i64 x.1,.int .i64 x.2]) q):zAc Tryz.prog w 307 #[] #[.pointer (some ⟨B,0,none⟩)] (.agg #[.int .i64 x.1,.int .i64 x.2]) !q:=by
 intro w' hb'
 have hc' : w'.cell? ⟨B,0,none⟩=some (.func (.func g) first cap):=(hb'.cell (p:=⟨B,0,none⟩) hB).trans hc
 have hBw:B < w'.heap.size:=Nat.lt_of_lt_of_le hB hb'.size
 clear hc
 show Calls Tryz.prog 307 #[.agg #[.int .i64 x.1,.int .i64 x.2],.pointer (some ⟨B,0,none⟩)] w' _
 go_enter Tryz.func307,Tryz.ntmps307
 go_wp2_with (refine (hm _ (hb'.trans ((Below.refl _ _).alloc hb'.size _))).mono ?_;rintro e w1 ⟨rfl,hb1⟩)
 go_ret
 exact ⟨rfl,((Below.refl _ _).alloc (Nat.le_refl _) _).trans (hb1.mono (by simp))⟩
theorem zNN (a:Option Addr) (xs:List (Int × Int)) (c:Nat) (g:FuncId) (first cap:Array Value) (p:(Int × Int)→Bool) (w:World) (hl:xs.length≤9223372036854775807) (hx:zAX w a xs)
  (hg:∀ args w,Sem.run Tryz.prog (callFunc g args) w=.ok (.enter g args) w) (hp:∀ x ∈ xs,zAc Tryz.prog w g first cap (.agg #[.int .i64 x.1,.int .i64 x.2]) (p x)) :
  Calls Tryz.prog 264 #[.slice a xs.length c,.func (.func g) first cap] w fun e w' => e=.returned (.bool (xs.all p))∧Below w.heap.size w w':=by
 have e1:xs.all p = !(xs.any fun x => !p x):=by rw [List.all_eq_not_any_not]
 rw [e1]
 have hb0:Below w.heap.size w (w.alloc (.cells #[.func (.func g) first cap] 317)):=(Below.refl _ _).alloc (Nat.le_refl _) _
 go_enter Tryz.func264,Tryz.ntmps264
 go_wp2_with (go_at_call 207;refine (zC4 a xs c 307 #[] #[.pointer (some ⟨w.heap.size,0,none⟩)] (fun x => !p x) _ hl (hx.below hb0) (enters Tryz.func307 (by kernel_rfl) rfl) (fun x hxx => zI2 x w.heap.size g first cap (p x) _ (by simp) (by rw [World.cell?_alloc_at _ _ _ _ rfl];rfl) hg ((hp x hxx).below hb0))).mono ?_;rintro e w1 ⟨rfl,hb1⟩;obtain ⟨hc1,hf1,hz1⟩:=zAk hb1;(try simp at hz1);(try (have hy0:w.heap.size < w1.heap.size:=by omega));(try (have hy1:w.heap.size + 1 < w1.heap.size:=by omega));(try (have hy2:w.heap.size + 2 < w1.heap.size:=by omega)))
 go_ret
 exact ⟨by simp,hb0.trans (hb1.mono (by simp))⟩
theorem zHF (a:Option Addr) (xs:List Leg) (c:Nat) (g:FuncId) (first cap:Array Value) (p:Leg→Bool) (w:World) (hl:xs.length≤9223372036854775807) (hx:zBu w a xs)
  (hg:∀ args w,Sem.run Tryz.prog (callFunc g args) w=.ok (.enter g args) w) (hp:∀ x ∈ xs,∀ ar ca,zAX w ar x.asl→zAc Tryz.prog w g first cap (.agg #[.int .i64 x.lo,.int .i64 x.hi,.slice ar x.asl.length ca]) (p x)) :
  Calls Tryz.prog 306 #[.slice a xs.length c,.func (.func g) first cap] w fun e w' => e=.returned (.int .i64 (idxBy p xs 0))∧Below w.heap.size w w':=by
 go_enter Tryz.func306,Tryz.ntmps306
 go_wp2
 go_loopw [5,8] (fun _ i wr => ∃ k:Nat,k≤xs.length∧i=.int .i64 k∧Below w.heap.size w wr∧idxBy p xs 0=idxBy p (xs.drop k) k) (fun _ i _ => xs.length - (intOf i).toNat)
 case atStart => exact ⟨0,Nat.zero_le _,rfl,Below.refl _ _,by simp⟩
 case round =>
  obtain ⟨k,hk,rfl,hb,hi⟩:=hrel
  have Hi:=Lib.hid hi
  clear hi
  by_cases hlt:k < xs.length
  ·obtain ⟨b,off,ar,ca,rfl,hbl,h0,h1,h2,h3⟩:=hx k hlt
   have hm:=hp xs[k] (List.getElem_mem hlt) ar ca h3
   have h0':=(hb.cell (p:=⟨b,off + k * 3,none⟩) hbl).trans h0
   have h1':=(hb.cell (p:=⟨b,off + k * 3 + 1,none⟩) hbl).trans h1
   have h2':=(hb.cell (p:=⟨b,off + k * 3 + 2,none⟩) hbl).trans h2
   clear h0 h1 h2 h3
   go_wp2_with (refine (hm wr hb).mono ?_;rintro e w1 ⟨rfl,hb1⟩)
   ·have h1:p xs[k]=true:=by assumption
    go_ret
    exact ⟨by rw [Hi.out,idxBy_hit p xs k hlt h1];rfl,hb.trans (hb1.mono hb.size)⟩
   ·have h1:p xs[k]=false:=by assumption
    go_roundw
    case rel => exact ⟨k + 1,by omega,by go_num,hb.trans (hb1.mono hb.size),by rw [Hi.out,idxBy_miss p xs k hlt h1]⟩
    case measure => simp [intOf];omega
  ·go_wp2
   go_ret
   exact ⟨by rw [Hi.out,zBQ p xs k k (by omega)];rfl,hb⟩
theorem zFA (a:Option Addr) (xs:List Leg) (c:Nat) (g:FuncId) (first cap:Array Value) (p:Leg→Bool) (w:World) (hl:xs.length≤9223372036854775807) (hx:zBu w a xs)
  (hg:∀ args w,Sem.run Tryz.prog (callFunc g args) w=.ok (.enter g args) w) (hp:∀ x ∈ xs,∀ ar ca,zAX w ar x.asl→zAc Tryz.prog w g first cap (.agg #[.int .i64 x.lo,.int .i64 x.hi,.slice ar x.asl.length ca]) (p x)) :
  Calls Tryz.prog 260 #[.slice a xs.length c,.func (.func g) first cap] w fun e w' => e=.returned (.bool (xs.any p))∧Below w.heap.size w w':=by
 rw [← zBJ p xs 0]
 have hi:=zBP p xs 0
 go_enter Tryz.func260,Tryz.ntmps260
 go_wp2_with (go_at_call 306;refine (zHF a xs c g first cap p w hl hx hg hp).mono ?_;rintro e w1 ⟨rfl,hb1⟩;obtain ⟨hc1,hf1,hz1⟩:=zAk hb1;(try simp at hz1);(try (have hy0:w.heap.size < w1.heap.size:=by omega));(try (have hy1:w.heap.size + 1 < w1.heap.size:=by omega));(try (have hy2:w.heap.size + 2 < w1.heap.size:=by omega)))
 go_ret
 exact ⟨rfl,hb1⟩
theorem zLI (x:Leg) (ar:Option Addr) (ca:Nat) (B:Nat) (g:FuncId) (first cap:Array Value) (q:Bool) (w:World) (hB:B < w.heap.size) (hc:w.cell? ⟨B,0,none⟩=some (.func (.func g) first cap))
  (hg:∀ args w,Sem.run Tryz.prog (callFunc g args) w=.ok (.enter g args) w) (hm:zAc Tryz.prog w g first cap (.agg #[.int .i64 x.lo,.int .i64 x.hi,.slice ar x.asl.length ca]) q):zAc Tryz.prog w 261 #[] #[.pointer (some ⟨B,0,none⟩)] (.agg #[.int .i64 x.lo,.int .i64 x.hi,.slice ar x.asl.length ca]) !q:=by
 intro w' hb'
 have hc' : w'.cell? ⟨B,0,none⟩=some (.func (.func g) first cap):=(hb'.cell (p:=⟨B,0,none⟩) hB).trans hc
 have hBw:B < w'.heap.size:=Nat.lt_of_lt_of_le hB hb'.size
 clear hc
 show Calls Tryz.prog 261 #[.agg #[.int .i64 x.lo,.int .i64 x.hi,.slice ar x.asl.length ca],.pointer (some ⟨B,0,none⟩)] w' _
 go_enter Tryz.func261,Tryz.ntmps261
 go_wp2_with (refine (hm _ (hb'.trans ((Below.refl _ _).alloc hb'.size _))).mono ?_;rintro e w1 ⟨rfl,hb1⟩)
 go_ret
 exact ⟨rfl,((Below.refl _ _).alloc (Nat.le_refl _) _).trans (hb1.mono (by simp))⟩
theorem zNO (a:Option Addr) (xs:List Leg) (c:Nat) (g:FuncId) (first cap:Array Value) (p:Leg→Bool) (w:World) (hl:xs.length≤9223372036854775807) (hx:zBu w a xs)
  (hg:∀ args w,Sem.run Tryz.prog (callFunc g args) w=.ok (.enter g args) w) (hp:∀ x ∈ xs,∀ W,Below w.heap.size w W→∀ ar ca,zAX W ar x.asl→zAc Tryz.prog W g first cap (.agg #[.int .i64 x.lo,.int .i64 x.hi,.slice ar x.asl.length ca]) (p x)) :
  Calls Tryz.prog 201 #[.slice a xs.length c,.func (.func g) first cap] w fun e w' => e=.returned (.bool (xs.all p))∧Below w.heap.size w w':=by
 have e1:xs.all p = !(xs.any fun x => !p x):=by rw [List.all_eq_not_any_not]
 rw [e1]
 have hb0:Below w.heap.size w (w.alloc (.cells #[.func (.func g) first cap] 315)):=(Below.refl _ _).alloc (Nat.le_refl _) _
 have hp':=fun x hxx => hp x hxx _ hb0
 go_enter Tryz.func201,Tryz.ntmps201
 go_wp2_with (go_at_call 260;refine (zFA a xs c 261 #[] #[.pointer (some ⟨w.heap.size,0,none⟩)] (fun x => !p x) _ hl (hx.below hb0) (enters Tryz.func261 (by kernel_rfl) rfl) (fun x hxx ar ca h => zLI x ar ca w.heap.size g first cap (p x) _ (by simp) (by rw [World.cell?_alloc_at _ _ _ _ rfl];rfl) hg (hp' x hxx ar ca h))).mono ?_;rintro e w1 ⟨rfl,hb1⟩;obtain ⟨hc1,hf1,hz1⟩:=zAk hb1;(try simp at hz1);(try (have hy0:w.heap.size < w1.heap.size:=by omega));(try (have hy1:w.heap.size + 1 < w1.heap.size:=by omega));(try (have hy2:w.heap.size + 2 < w1.heap.size:=by omega)))
 go_ret
 exact ⟨by simp,hb0.trans (hb1.mono (by simp))⟩
theorem zFn (a:Option Addr) (xs:List Route) (c:Nat) (g:FuncId) (first cap:Array Value) (p:Route→Bool) (w:World) (hl:xs.length≤9223372036854775807) (hx:zAb w a xs)
  (hg:∀ args w,Sem.run Tryz.prog (callFunc g args) w=.ok (.enter g args) w) (hp:∀ x ∈ xs,∀ al ca,zBu w al x.legs→zAc Tryz.prog w g first cap (.agg #[.slice al x.legs.length ca,.bool x.lossy]) (p x)) :
  Calls Tryz.prog 259 #[.slice a xs.length c,.func (.func g) first cap] w fun e w' => e=.returned (.int .i64 (idxBy p xs 0))∧Below w.heap.size w w':=by
 go_enter Tryz.func259,Tryz.ntmps259
 go_wp2
 go_loopw [5,8] (fun _ i wr => ∃ k:Nat,k≤xs.length∧i=.int .i64 k∧Below w.heap.size w wr∧idxBy p xs 0=idxBy p (xs.drop k) k) (fun _ i _ => xs.length - (intOf i).toNat)
 case atStart => exact ⟨0,Nat.zero_le _,rfl,Below.refl _ _,by simp⟩
 case round =>
  obtain ⟨k,hk,rfl,hb,hi⟩:=hrel
  have Hi:=Lib.hid hi
  clear hi
  by_cases hlt:k < xs.length
  ·obtain ⟨b,off,al,ca,rfl,hbl,h0,h1,h2⟩:=hx k hlt
   have hm:=hp xs[k] (List.getElem_mem hlt) al ca h2
   have h0':=(hb.cell (p:=⟨b,off + k * 2,none⟩) hbl).trans h0
   have h1':=(hb.cell (p:=⟨b,off + k * 2 + 1,none⟩) hbl).trans h1
   clear h0 h1 h2
   go_wp2_with (refine (hm wr hb).mono ?_;rintro e w1 ⟨rfl,hb1⟩)
   ·have h1:p xs[k]=true:=by assumption
    go_ret
    exact ⟨by rw [Hi.out,idxBy_hit p xs k hlt h1];rfl,hb.trans (hb1.mono hb.size)⟩
   ·have h1:p xs[k]=false:=by assumption
    go_roundw
    case rel => exact ⟨k + 1,by omega,by go_num,hb.trans (hb1.mono hb.size),by rw [Hi.out,idxBy_miss p xs k hlt h1]⟩
    case measure => simp [intOf];omega
  ·go_wp2
   go_ret
   exact ⟨by rw [Hi.out,zBQ p xs k k (by omega)];rfl,hb⟩
theorem zES (a:Option Addr) (xs:List Route) (c:Nat) (g:FuncId) (first cap:Array Value) (p:Route→Bool) (w:World) (hl:xs.length≤9223372036854775807) (hx:zAb w a xs)
  (hg:∀ args w,Sem.run Tryz.prog (callFunc g args) w=.ok (.enter g args) w) (hp:∀ x ∈ xs,∀ al ca,zBu w al x.legs→zAc Tryz.prog w g first cap (.agg #[.slice al x.legs.length ca,.bool x.lossy]) (p x)) :
  Calls Tryz.prog 199 #[.slice a xs.length c,.func (.func g) first cap] w fun e w' => e=.returned (.bool (xs.any p))∧Below w.heap.size w w':=by
 rw [← zBJ p xs 0]
 have hi:=zBP p xs 0
 go_enter Tryz.func199,Tryz.ntmps199
 go_wp2_with (go_at_call 259;refine (zFn a xs c g first cap p w hl hx hg hp).mono ?_;rintro e w1 ⟨rfl,hb1⟩;obtain ⟨hc1,hf1,hz1⟩:=zAk hb1;(try simp at hz1);(try (have hy0:w.heap.size < w1.heap.size:=by omega));(try (have hy1:w.heap.size + 1 < w1.heap.size:=by omega));(try (have hy2:w.heap.size + 2 < w1.heap.size:=by omega)))
 go_ret
 exact ⟨rfl,hb1⟩
theorem zI1 (x:Route) (al:Option Addr) (ca:Nat) (B:Nat) (g:FuncId) (first cap:Array Value) (q:Bool) (w:World) (hB:B < w.heap.size) (hc:w.cell? ⟨B,0,none⟩=some (.func (.func g) first cap))
  (hg:∀ args w,Sem.run Tryz.prog (callFunc g args) w=.ok (.enter g args) w) (hm:zAc Tryz.prog w g first cap (.agg #[.slice al x.legs.length ca,.bool x.lossy]) q):zAc Tryz.prog w 200 #[] #[.pointer (some ⟨B,0,none⟩)] (.agg #[.slice al x.legs.length ca,.bool x.lossy]) !q:=by
 intro w' hb'
 have hc' : w'.cell? ⟨B,0,none⟩=some (.func (.func g) first cap):=(hb'.cell (p:=⟨B,0,none⟩) hB).trans hc
 have hBw:B < w'.heap.size:=Nat.lt_of_lt_of_le hB hb'.size
 clear hc
 show Calls Tryz.prog 200 #[.agg #[.slice al x.legs.length ca,.bool x.lossy],.pointer (some ⟨B,0,none⟩)] w' _
 go_enter Tryz.func200,Tryz.ntmps200
 go_wp2_with (refine (hm _ (hb'.trans ((Below.refl _ _).alloc hb'.size _))).mono ?_;rintro e w1 ⟨rfl,hb1⟩)
 go_ret
 exact ⟨rfl,((Below.refl _ _).alloc (Nat.le_refl _) _).trans (hb1.mono (by simp))⟩
theorem zIZ (a:Option Addr) (xs:List Route) (c:Nat) (g:FuncId) (first cap:Array Value) (p:Route→Bool) (w:World) (hl:xs.length≤9223372036854775807) (hx:zAb w a xs)
  (hg:∀ args w,Sem.run Tryz.prog (callFunc g args) w=.ok (.enter g args) w) (hp:∀ x ∈ xs,∀ W,Below w.heap.size w W→∀ al ca,zBu W al x.legs→zAc Tryz.prog W g first cap (.agg #[.slice al x.legs.length ca,.bool x.lossy]) (p x)) :
  Calls Tryz.prog 148 #[.slice a xs.length c,.func (.func g) first cap] w fun e w' => e=.returned (.bool (xs.all p))∧Below w.heap.size w w':=by
 have e1:xs.all p = !(xs.any fun x => !p x):=by rw [List.all_eq_not_any_not]
 rw [e1]
 have hb0:Below w.heap.size w (w.alloc (.cells #[.func (.func g) first cap] 257)):=(Below.refl _ _).alloc (Nat.le_refl _) _
 have hp':=fun x hxx => hp x hxx _ hb0
 go_enter Tryz.func148,Tryz.ntmps148
 go_wp2_with (go_at_call 199;refine (zES a xs c 200 #[] #[.pointer (some ⟨w.heap.size,0,none⟩)] (fun x => !p x) _ hl (hx.below hb0) (enters Tryz.func200 (by kernel_rfl) rfl) (fun x hxx al ca h => zI1 x al ca w.heap.size g first cap (p x) _ (by simp) (by rw [World.cell?_alloc_at _ _ _ _ rfl];rfl) hg (hp' x hxx al ca h))).mono ?_;rintro e w1 ⟨rfl,hb1⟩;obtain ⟨hc1,hf1,hz1⟩:=zAk hb1;(try simp at hz1);(try (have hy0:w.heap.size < w1.heap.size:=by omega));(try (have hy1:w.heap.size + 1 < w1.heap.size:=by omega));(try (have hy2:w.heap.size + 2 < w1.heap.size:=by omega)))
 go_ret
 exact ⟨by simp,hb0.trans (hb1.mono (by simp))⟩
theorem zFp (a:Option Addr) (xs:List Ent) (c:Nat) (g:FuncId) (first cap:Array Value) (p:Ent→Bool) (w:World) (hl:xs.length≤9223372036854775807) (hx:zCX w a xs)
  (hg:∀ args w,Sem.run Tryz.prog (callFunc g args) w=.ok (.enter g args) w) (hp:∀ x ∈ xs,zAc Tryz.prog w g first cap (.agg #[.int .i64 x.num,.int .i64 x.at_,.bool x.skip]) (p x)) :
  Calls Tryz.prog 211 #[.slice a xs.length c,.func (.func g) first cap] w fun e w' => e=.returned (.int .i64 (idxBy p xs 0))∧Below w.heap.size w w':=by
 go_enter Tryz.func211,Tryz.ntmps211
 go_wp2
 go_loopw [5,8] (fun _ i wr => ∃ k:Nat,k≤xs.length∧i=.int .i64 k∧Below w.heap.size w wr∧idxBy p xs 0=idxBy p (xs.drop k) k) (fun _ i _ => xs.length - (intOf i).toNat)
 case atStart => exact ⟨0,Nat.zero_le _,rfl,Below.refl _ _,by simp⟩
 case round =>
  obtain ⟨k,hk,rfl,hb,hi⟩:=hrel
  have Hi:=Lib.hid hi
  clear hi
  by_cases hlt:k < xs.length
  ·obtain ⟨b,off,rfl,hbl,h0,h1,h2⟩:=hx k hlt
   have hm:=hp xs[k] (List.getElem_mem hlt)
   have h0':=(hb.cell (p:=⟨b,off + k * 3,none⟩) hbl).trans h0
   have h1':=(hb.cell (p:=⟨b,off + k * 3 + 1,none⟩) hbl).trans h1
   have h2':=(hb.cell (p:=⟨b,off + k * 3 + 2,none⟩) hbl).trans h2
   clear h0 h1 h2
   go_wp2_with (refine (hm wr hb).mono ?_;rintro e w1 ⟨rfl,hb1⟩)
   ·have h1:p xs[k]=true:=by assumption
    go_ret
    exact ⟨by rw [Hi.out,idxBy_hit p xs k hlt h1];rfl,hb.trans (hb1.mono hb.size)⟩
   ·have h1:p xs[k]=false:=by assumption
    go_roundw
    case rel => exact ⟨k + 1,by omega,by go_num,hb.trans (hb1.mono hb.size),by rw [Hi.out,idxBy_miss p xs k hlt h1]⟩
    case measure => simp [intOf];omega
  ·go_wp2
   go_ret
   exact ⟨by rw [Hi.out,zBQ p xs k k (by omega)];rfl,hb⟩
theorem zC5 (a:Option Addr) (xs:List Ent) (c:Nat) (g:FuncId) (first cap:Array Value) (p:Ent→Bool) (w:World) (hl:xs.length≤9223372036854775807) (hx:zCX w a xs)
  (hg:∀ args w,Sem.run Tryz.prog (callFunc g args) w=.ok (.enter g args) w) (hp:∀ x ∈ xs,zAc Tryz.prog w g first cap (.agg #[.int .i64 x.num,.int .i64 x.at_,.bool x.skip]) (p x)) :
  Calls Tryz.prog 164 #[.slice a xs.length c,.func (.func g) first cap] w fun e w' => e=.returned (.bool (xs.any p))∧Below w.heap.size w w':=by
 rw [← zBJ p xs 0]
 have hi:=zBP p xs 0
 go_enter Tryz.func164,Tryz.ntmps164
 go_wp2_with (go_at_call 211;refine (zFp a xs c g first cap p w hl hx hg hp).mono ?_;rintro e w1 ⟨rfl,hb1⟩;obtain ⟨hc1,hf1,hz1⟩:=zAk hb1;(try simp at hz1);(try (have hy0:w.heap.size < w1.heap.size:=by omega));(try (have hy1:w.heap.size + 1 < w1.heap.size:=by omega));(try (have hy2:w.heap.size + 2 < w1.heap.size:=by omega)))
 go_ret
 exact ⟨rfl,hb1⟩
theorem zI3 (x:Ent) (B:Nat) (g:FuncId) (first cap:Array Value) (q:Bool) (w:World) (hB:B < w.heap.size) (hc:w.cell? ⟨B,0,none⟩=some (.func (.func g) first cap))
  (hg:∀ args w,Sem.run Tryz.prog (callFunc g args) w=.ok (.enter g args) w) (hm:zAc Tryz.prog w g first cap (.agg #[.int .i64 x.num,.int .i64 x.at_,.bool x.skip]) q):zAc Tryz.prog w 196 #[] #[.pointer (some ⟨B,0,none⟩)] (.agg #[.int .i64 x.num,.int .i64 x.at_,.bool x.skip]) !q:=by
 intro w' hb'
 have hc' : w'.cell? ⟨B,0,none⟩=some (.func (.func g) first cap):=(hb'.cell (p:=⟨B,0,none⟩) hB).trans hc
 have hBw:B < w'.heap.size:=Nat.lt_of_lt_of_le hB hb'.size
 clear hc
 show Calls Tryz.prog 196 #[.agg #[.int .i64 x.num,.int .i64 x.at_,.bool x.skip],.pointer (some ⟨B,0,none⟩)] w' _
 go_enter Tryz.func196,Tryz.ntmps196
 go_wp2_with (refine (hm _ (hb'.trans ((Below.refl _ _).alloc hb'.size _))).mono ?_;rintro e w1 ⟨rfl,hb1⟩)
 go_ret
 exact ⟨rfl,((Below.refl _ _).alloc (Nat.le_refl _) _).trans (hb1.mono (by simp))⟩
theorem zNP (a:Option Addr) (xs:List Ent) (c:Nat) (g:FuncId) (first cap:Array Value) (p:Ent→Bool) (w:World) (hl:xs.length≤9223372036854775807) (hx:zCX w a xs)
  (hg:∀ args w,Sem.run Tryz.prog (callFunc g args) w=.ok (.enter g args) w) (hp:∀ x ∈ xs,zAc Tryz.prog w g first cap (.agg #[.int .i64 x.num,.int .i64 x.at_,.bool x.skip]) (p x)) :
  Calls Tryz.prog 136 #[.slice a xs.length c,.func (.func g) first cap] w fun e w' => e=.returned (.bool (xs.all p))∧Below w.heap.size w w':=by
 have e1:xs.all p = !(xs.any fun x => !p x):=by rw [List.all_eq_not_any_not]
 rw [e1]
 have hb0:Below w.heap.size w (w.alloc (.cells #[.func (.func g) first cap] 242)):=(Below.refl _ _).alloc (Nat.le_refl _) _
 go_enter Tryz.func136,Tryz.ntmps136
 go_wp2_with (go_at_call 164;refine (zC5 a xs c 196 #[] #[.pointer (some ⟨w.heap.size,0,none⟩)] (fun x => !p x) _ hl (hx.below hb0) (enters Tryz.func196 (by kernel_rfl) rfl) (fun x hxx => zI3 x w.heap.size g first cap (p x) _ (by simp) (by rw [World.cell?_alloc_at _ _ _ _ rfl];rfl) hg ((hp x hxx).below hb0))).mono ?_;rintro e w1 ⟨rfl,hb1⟩;obtain ⟨hc1,hf1,hz1⟩:=zAk hb1;(try simp at hz1);(try (have hy0:w.heap.size < w1.heap.size:=by omega));(try (have hy1:w.heap.size + 1 < w1.heap.size:=by omega));(try (have hy2:w.heap.size + 2 < w1.heap.size:=by omega)))
 go_ret
 exact ⟨by simp,hb0.trans (hb1.mono (by simp))⟩
theorem zCM {a b:Bool} (h:a=b):Ending.returned (.bool a)=.returned (.bool b):=by rw [h]
theorem zIg {k:IntKind} {a b:Int} (h:a=b):Ending.returned (.int k a)=.returned (.int k b):=by rw [h]
theorem zAm (a b c:Int) (w:World) :
  Calls Tryz.prog 159 #[.int .i64 a,.int .i64 b,.int .i64 c] w fun e w' => e=.returned (.bool (decide (b≤a) && decide (a≤c)))∧w=w':=by
 by_cases h:b≤a
 ·have h1:decide (b≤a)=true:=by simpa using h
  go_enter Tryz.func159,Tryz.ntmps159
  go_wp2
  go_ret
  exact ⟨by simp [h1],rfl⟩
 ·have h1:decide (b≤a)=false:=by simpa using h
  go_enter Tryz.func159,Tryz.ntmps159
  go_wp2
  go_ret
  exact ⟨by simp [h1],rfl⟩
theorem zJA (x y n:Int) (w:World) :
  Calls Tryz.prog 147 #[.agg #[.int .i64 x,.int .i64 y],.int .i64 n] w fun e w' => e=.returned (.bool (inR n (x,y)))∧Below w.heap.size w w':=by
 go_enter Tryz.func147,Tryz.ntmps147
 go_wp2_with (go_at_call 159;refine (zAm _ _ _ _).mono ?_;rintro e w1 ⟨rfl,rfl⟩)
 go_ret
 exact ⟨rfl,(Below.refl _ _).alloc (Nat.le_refl _) _⟩
theorem zGm (x y n:Int) (w:World) :
  Calls Tryz.prog 263 #[.agg #[.int .i64 x,.int .i64 y],.int .i64 n] w fun e w' => e=.returned (.bool (zCk (x,y) n))∧Below w.heap.size w w':=by
 cases h0:decide (0≤x)
 ·go_enter Tryz.func263,Tryz.ntmps263
  go_wp2
  go_ret
  exact ⟨zCM (by simp only [zCk,h0,Bool.false_and]),(Below.refl _ _).alloc (Nat.le_refl _) _⟩
 cases h1:decide (x≤y)
 ·go_enter Tryz.func263,Tryz.ntmps263
  go_wp2
  go_ret
  exact ⟨zCM (by simp only [zCk,h0,h1,Bool.true_and,Bool.false_and]),(Below.refl _ _).alloc (Nat.le_refl _) _⟩
 ·go_enter Tryz.func263,Tryz.ntmps263
  go_wp2
  go_ret
  exact ⟨zCM (by simp only [zCk,h0,h1,Bool.true_and]),(Below.refl _ _).alloc (Nat.le_refl _) _⟩
theorem zMc (x y:Int) (w:World) :
  Calls Tryz.prog 265 #[.agg #[.int .i64 x,.int .i64 y]] w fun e w' => e=.returned (.bool (zCk (x,y) 30))∧Below w.heap.size w w':=by
 go_enter Tryz.func265,Tryz.ntmps265
 go_wp2_with (go_at_call 263;refine (zGm _ _ _ _).mono ?_;rintro e w1 ⟨rfl,hb1⟩;obtain ⟨hc1,hf1,hz1⟩:=zAk hb1;(try simp at hz1);(try (have hy0:w.heap.size < w1.heap.size:=by omega));(try (have hy1:w.heap.size + 1 < w1.heap.size:=by omega));(try (have hy2:w.heap.size + 2 < w1.heap.size:=by omega)))
 go_ret
 exact ⟨rfl,by exact zzL⟩
theorem zKe (ar:Option Addr) (ca:Nat) (x y:Int) (n:Nat) (w:World) (hn:n≤9223372036854775807) :
  Calls Tryz.prog 202 #[.agg #[.int .i64 x,.int .i64 y,.slice ar n ca]] w fun e w' => e=.returned (.bool (decide (n≤2)))∧Below w.heap.size w w':=by
 have e:decide (n≤2)=decide ((n:Int)≤2):=decide_eq_decide.2 (by omega)
 rw [e]
 go_enter Tryz.func202,Tryz.ntmps202
 go_wp2
 go_ret
 exact ⟨rfl,(Below.refl _ _).alloc (Nat.le_refl _) _⟩
theorem zCw {α:Type} {l:List α} {n:Nat} (h:l.length≤n) (hn:n≤1000):l.length≤9223372036854775807:=by omega
theorem zJE (al:Option Addr) (ca:Nat) (r:Route) (w:World) (hr:zBu w al r.legs) (hn:r.legs.length≤9223372036854775807) (hs:∀ l ∈ r.legs,l.asl.length≤9223372036854775807) :
  Calls Tryz.prog 149 #[.agg #[.slice al r.legs.length ca,.bool r.lossy]] w fun e w' => e=.returned (.bool (zBo r))∧Below w.heap.size w w':=by
 cases h0:decide ((r.legs.length:Int)≤3)
 ·have h1:decide (r.legs.length≤3)=false:=by rw [← h0];exact decide_eq_decide.2 (by omega)
  go_enter Tryz.func149,Tryz.ntmps149
  go_wp2
  go_ret
  exact ⟨zCM (by unfold zBo;rw [h1,Bool.false_and]),(Below.refl _ _).alloc (Nat.le_refl _) _⟩
 ·have h1:decide (r.legs.length≤3)=true:=by rw [← h0];exact decide_eq_decide.2 (by omega)
  have H1:=Lib.hid h1
  clear h1
  have b0:Below w.heap.size w (w.alloc (.cells #[.slice al r.legs.length ca,.bool r.lossy] 150)):=(Below.refl _ _).alloc (Nat.le_refl _) _
  go_enter Tryz.func149,Tryz.ntmps149
  go_wp2_with (go_at_call 201;refine (zNO al r.legs ca 202 #[] #[] (fun l => decide (l.asl.length≤2)) _ hn (hr.below b0) (enters Tryz.func202 (by kernel_rfl) rfl) (fun x hx W _ ar c _ W' _ => zKe ar c _ _ _ W' (hs x hx))).mono ?_;rintro e w1 ⟨rfl,hb1⟩;obtain ⟨hc1,hf1,hz1⟩:=zAk hb1;(try simp at hz1);(try (have hy0:w.heap.size < w1.heap.size:=by omega));(try (have hy1:w.heap.size + 1 < w1.heap.size:=by omega));(try (have hy2:w.heap.size + 2 < w1.heap.size:=by omega)))
  go_ret
  exact ⟨zCM (by unfold zBo;rw [H1.out,Bool.true_and]),b0.trans (hb1.mono (by simp))⟩
theorem zIB (ar:Option Addr) (ca:Nat) (l:Leg) (w:World) (hr:zAX w ar l.asl) (hn:l.asl.length≤9223372036854775807) :
  Calls Tryz.prog 205 #[.agg #[.int .i64 l.lo,.int .i64 l.hi,.slice ar l.asl.length ca]] w fun e w' => e=.returned (.bool (zDC l))∧Below w.heap.size w w':=by
 have b0:Below w.heap.size w (w.alloc (.cells #[.int .i64 l.lo,.int .i64 l.hi,.slice ar l.asl.length ca] 147)):=(Below.refl _ _).alloc (Nat.le_refl _) _
 cases h0:zCk (l.lo,l.hi) 6
 ·go_enter Tryz.func205,Tryz.ntmps205
  have hu:=fun W => zGm l.lo l.hi 6 W
  rw [h0] at hu
  go_wp2_with (go_at_call 263;refine (hu _).mono ?_;rintro e w1 ⟨rfl,hb1⟩;obtain ⟨hc1,hf1,hz1⟩:=zAk hb1;(try simp at hz1);(try (have hy0:w.heap.size < w1.heap.size:=by omega));(try (have hy1:w.heap.size + 1 < w1.heap.size:=by omega));(try (have hy2:w.heap.size + 2 < w1.heap.size:=by omega)))
  go_ret
  exact ⟨zCM (by unfold zDC;rw [h0,Bool.false_and]),b0.trans (hb1.mono (by simp))⟩
 ·go_enter Tryz.func205,Tryz.ntmps205
  have hu:=fun W => zGm l.lo l.hi 6 W
  rw [h0] at hu
  go_wp2_with (go_at_call 263;refine (hu _).mono ?_;rintro e w1 ⟨rfl,hb1⟩;obtain ⟨hc1,hf1,hz1⟩:=zAk hb1;(try simp at hz1);(try (have hy0:w.heap.size < w1.heap.size:=by omega));(try (have hy1:w.heap.size + 1 < w1.heap.size:=by omega));(try (have hy2:w.heap.size + 2 < w1.heap.size:=by omega)))
  have b1:Below w.heap.size w w1:=b0.trans (hb1.mono (by simp))
  obtain ⟨w0,e0⟩:∃ x,x=w1:=⟨_,rfl⟩
  subst e0
  go_wp2_with (go_at_call 264;refine (zNN ar l.asl ca 265 #[] #[] (fun r => zCk r 30) _ hn (hr.below b1) (enters Tryz.func265 (by kernel_rfl) rfl) (fun x _ W _ => zMc x.1 x.2 W)).mono ?_;rintro e w2 ⟨rfl,hb2⟩)
  go_ret
  exact ⟨zCM (by unfold zDC;rw [h0,Bool.true_and]),b1.trans (hb2.mono b1.size)⟩
theorem zGK (al:Option Addr) (ca:Nat) (r:Route) (w:World) (hr:zBu w al r.legs) (hn:r.legs.length≤9223372036854775807) (hs:∀ l ∈ r.legs,l.asl.length≤9223372036854775807) :
  Calls Tryz.prog 152 #[.agg #[.slice al r.legs.length ca,.bool r.lossy]] w fun e w' => e=.returned (.bool (zBv r))∧Below w.heap.size w w':=by
 cases h0:decide (0 < (r.legs.length:Int))
 ·have h1:decide (0 < r.legs.length)=false:=by rw [← h0];exact decide_eq_decide.2 (by omega)
  go_enter Tryz.func152,Tryz.ntmps152
  go_wp2
  go_ret
  exact ⟨zCM (by unfold zBv;rw [h1,Bool.false_and]),(Below.refl _ _).alloc (Nat.le_refl _) _⟩
 ·have h1:decide (0 < r.legs.length)=true:=by rw [← h0];exact decide_eq_decide.2 (by omega)
  have p1:0 < r.legs.length:=by simpa using h1
  have H1:=Lib.hid h1
  clear h1
  have b0:Below w.heap.size w (w.alloc (.cells #[.slice al r.legs.length ca,.bool r.lossy] 150)):=(Below.refl _ _).alloc (Nat.le_refl _) _
  go_enter Tryz.func152,Tryz.ntmps152
  go_wp2_with (go_at_call 201;refine (zNO al r.legs ca 205 #[] #[] zDC _ hn (hr.below b0) (enters Tryz.func205 (by kernel_rfl) rfl) (fun x hx W _ ar c hR W' hW' => zIB ar c x W' (hR.below hW') (hs x hx))).mono ?_;rintro e w1 ⟨rfl,hb1⟩;obtain ⟨hc1,hf1,hz1⟩:=zAk hb1;(try simp at hz1);(try (have hy0:w.heap.size < w1.heap.size:=by omega));(try (have hy1:w.heap.size + 1 < w1.heap.size:=by omega));(try (have hy2:w.heap.size + 2 < w1.heap.size:=by omega)))
  go_ret
  exact ⟨zCM (by unfold zBv;rw [H1.out,Bool.true_and]),b0.trans (hb1.mono (by simp))⟩
theorem zKQ:∀ (l:List Int) (k:Nat),k + 1 < l.length→zDJ (l.drop k)=(decide (l.getD k 0 < l.getD (k + 1) 0) && zDJ (l.drop (k + 1)))
 | l,k,h => by
  rw [List.drop_eq_getElem_cons (show k < l.length by omega),List.drop_eq_getElem_cons (show k + 1 < l.length by omega)]
  simp [zDJ,show k < l.length by omega,h]
theorem zLe (l:List Int) (k:Nat) (h:l.length≤k + 1):zDJ (l.drop k)=true:=by
 have:(l.drop k).length≤1:=by simp;omega
 match hd:l.drop k,this with
 | [],_ => rfl
 | [_],_ => rfl
 | _ :: _ :: _,h => simp at h
theorem zLf (a:Option Addr) (xs:List Int) (c:Nat) (w:World) (hl:xs.length≤1000) (hx:IntsAt w a xs) :
  Calls Tryz.prog 151 #[.slice a xs.length c] w fun e w' => e=.returned (.bool (zDJ xs))∧Below w.heap.size w w':=by
 go_enter Tryz.func151,Tryz.ntmps151
 go_wp2
 go_loopw [3] (fun i wr => ∃ k:Nat,i=.int .i64 (k + 1:Nat)∧k≤xs.length∧Below w.heap.size w wr∧zDJ xs=zDJ (xs.drop k)) (fun i _ => xs.length - (intOf i).toNat)
 case atStart => exact ⟨0,rfl,Nat.zero_le _,Below.refl _ _,rfl⟩
 case round =>
  obtain ⟨k,rfl,hk,hb,hi⟩:=hrel
  have Hi:=Lib.hid hi
  clear hi
  by_cases hlt:k + 1 < xs.length
  ·obtain ⟨b,off,rfl,hbl,c0⟩:=hx k (by omega)
   obtain ⟨b',off',e,_,c1⟩:=hx (k + 1) hlt
   obtain ⟨rfl,rfl⟩:b=b'∧off=off':=by simpa using e
   have hd:=zKQ xs k hlt
   have c0':=(hb.cell (p:=⟨b,off + k,none⟩) hbl).trans c0
   have c1':=(hb.cell (p:=⟨b,off + (k + 1),none⟩) hbl).trans c1
   have hbr:b < wr.heap.size:=Nat.lt_of_lt_of_le hbl hb.size
   clear c0 c1 e
   obtain ⟨x,hx0⟩:∃ x,xs.getD k 0=x:=⟨_,rfl⟩
   obtain ⟨y,hy0⟩:∃ y,xs.getD (k + 1) 0=y:=⟨_,rfl⟩
   rw [hx0,hy0] at hd
   rw [hx0] at c0'
   rw [hy0] at c1'
   have Hd:=Lib.hid hd
   clear hx0 hy0 hd
   have s1:IntKind.i64.wrap ((k + 1:Nat) - 1:Int)=k:=IntWalk.i64_in _ (by omega) |>.trans (by omega)
   by_cases hyx:y≤x
   ·have hlxy:decide (x < y)=false:=by simpa using hyx
    have Hl:=Lib.hid hlxy
    clear hlxy
    go_wp2
    (refine zAC 10 (by kernel_rfl) (by kernel_rfl) ?_;simp only [zzA,zzB,zzC,zzD];(repeat (go_big_quiet_step ((fail))));refine wpQuiet_nil ?_;rintro _ ⟨ex,rfl⟩;have hex:=ex.below;have hexz:=ex.size;(try simp at hexz);(try (have hy0:w.heap.size < ex.to.heap.size:=by omega));(try (have hy1:w.heap.size + 1 < ex.to.heap.size:=by omega));(try (have hy2:w.heap.size + 2 < ex.to.heap.size:=by omega)))
    go_wp2
    go_ret
    exact ⟨zCM (by rw [Hi.out,Hd.out,Hl.out,Bool.false_and]),hb.trans (hex.mono hb.size)⟩
   ·have hlxy:decide (x < y)=true:=by simp;omega
    have Hl:=Lib.hid hlxy
    clear hlxy
    go_wp2
    (refine zAC 10 (by kernel_rfl) (by kernel_rfl) ?_;simp only [zzA,zzB,zzC,zzD];(repeat (go_big_quiet_step ((fail))));refine wpQuiet_nil ?_;rintro _ ⟨ex,rfl⟩;have hex:=ex.below;have hexz:=ex.size;(try simp at hexz);(try (have hy0:w.heap.size < ex.to.heap.size:=by omega));(try (have hy1:w.heap.size + 1 < ex.to.heap.size:=by omega));(try (have hy2:w.heap.size + 2 < ex.to.heap.size:=by omega)))
    go_wp2
    go_roundw
    case rel => exact ⟨k + 1,by go_num,by omega,hb.trans (hex.mono hb.size),by rw [Hi.out,Hd.out,Hl.out,Bool.true_and]⟩
    case measure => simp [intOf];omega
  ·go_wp2
   go_ret
   exact ⟨zCM (by rw [Hi.out,zLe xs k (by omega)]),hb⟩
structure PostSmall (p:Post):Prop where
 s:p.sends.length≤1000
 r:p.routes.length≤1000
 l:∀ r ∈ p.routes,r.legs.length≤1000
 a:∀ r ∈ p.routes,∀ l ∈ r.legs,l.asl.length≤1000
theorem zCv (a:Option Addr) (c:Nat) (ar:Option Addr) (cr:Nat) (p:Post) (w:World) (hs:IntsAt w a p.sends) (hr:zAb w ar p.routes) (sm:PostSmall p) :
  Calls Tryz.prog 85 #[.agg #[.slice a p.sends.length c,.slice ar p.routes.length cr,.int .i64 p.pat]] w fun e w' => e=.returned (.int .i64 (zA4 p))∧Below w.heap.size w w':=by
 have l0:=sm.s
 have l1:=sm.r
 have b0:Below w.heap.size w (w.alloc (.cells #[.slice a p.sends.length c,.slice ar p.routes.length cr,.int .i64 p.pat] 51)):=(Below.refl _ _).alloc (Nat.le_refl _) _
 obtain ⟨W,hW⟩:∃ x,x=w.alloc (.cells #[.slice a p.sends.length c,.slice ar p.routes.length cr,.int .i64 p.pat] 51):=⟨_,rfl⟩
 have few:=fun W (b:Below w.heap.size w W) => zIZ ar p.routes cr 149 #[] #[] zBo W (by omega) (hr.below b) (enters Tryz.func149 (by kernel_rfl) rfl) (fun x hx W1 _ al ca hR W' hW' => zJE al ca x W' (hR.below hW') (zCw (sm.l x hx) (by omega)) (fun l hl => zCw (sm.a x hx l hl) (by omega)))
 have val:=fun W (b:Below w.heap.size w W) => zIZ ar p.routes cr 152 #[] #[] zBv W (by omega) (hr.below b) (enters Tryz.func152 (by kernel_rfl) rfl) (fun x hx W1 _ al ca hR W' hW' => zGK al ca x W' (hR.below hW') (zCw (sm.l x hx) (by omega)) (fun l hl => zCw (sm.a x hx l hl) (by omega)))
 have hrs:=fun W (b:Below w.heap.size w W) => zJP a p.sends c 147 #[.agg #[.int .i64 0,.int .i64 30]] #[] (fun n => inR n (0,30)) W (by omega) (hs.below b) (enters Tryz.func147 (by kernel_rfl) rfl) (fun x _ W' _ => zJA 0 30 x W')
 have ris:=fun W (b:Below w.heap.size w W) => zLf a p.sends c W (by omega) (hs.below b)
 clear hW W
 go_enter Tryz.func85,Tryz.ntmps85
 go_wp2_with (first
  | (go_at_call 148;(with_reducible refine (few _ (by exact zzL)).mono ?_);rintro e w1 ⟨rfl,hb1⟩;obtain ⟨hc1,hf1,hz1⟩:=zAk hb1;(try simp at hz1);(try (have hy0:w.heap.size < w1.heap.size:=by omega));(try (have hy1:w.heap.size + 1 < w1.heap.size:=by omega));(try (have hy2:w.heap.size + 2 < w1.heap.size:=by omega));cases hF1:p.routes.all zBo)
  | (go_at_call 148;(with_reducible refine (val _ (by exact zzL)).mono ?_);rintro e w1 ⟨rfl,hb1⟩;obtain ⟨hc1,hf1,hz1⟩:=zAk hb1;(try simp at hz1);(try (have hy0:w.heap.size < w1.heap.size:=by omega));(try (have hy1:w.heap.size + 1 < w1.heap.size:=by omega));(try (have hy2:w.heap.size + 2 < w1.heap.size:=by omega));cases hV1:p.routes.all zBv)
  | (go_at_call 147;(with_reducible refine (zJA 0 30 p.pat _).mono ?_);rintro e w1 ⟨rfl,hb1⟩;obtain ⟨hc1,hf1,hz1⟩:=zAk hb1;(try simp at hz1);(try (have hy0:w.heap.size < w1.heap.size:=by omega));(try (have hy1:w.heap.size + 1 < w1.heap.size:=by omega));(try (have hy2:w.heap.size + 2 < w1.heap.size:=by omega));cases hP1:inR p.pat (0,30))
  | (go_at_call 150;(with_reducible refine (hrs _ (by exact zzL)).mono ?_);rintro e w1 ⟨rfl,hb1⟩;obtain ⟨hc1,hf1,hz1⟩:=zAk hb1;(try simp at hz1);(try (have hy0:w.heap.size < w1.heap.size:=by omega));(try (have hy1:w.heap.size + 1 < w1.heap.size:=by omega));(try (have hy2:w.heap.size + 2 < w1.heap.size:=by omega));cases hS1:p.sends.all (fun n => inR n (0,30)))
  | (go_at_call 151;(with_reducible refine (ris _ (by exact zzL)).mono ?_);rintro e w1 ⟨rfl,hb1⟩;obtain ⟨hc1,hf1,hz1⟩:=zAk hb1;(try simp at hz1);(try (have hy0:w.heap.size < w1.heap.size:=by omega));(try (have hy1:w.heap.size + 1 < w1.heap.size:=by omega));(try (have hy2:w.heap.size + 2 < w1.heap.size:=by omega));cases hR1:zDJ p.sends))
 all_goals go_ret
 all_goals (refine ⟨?_,by exact zzL⟩)
 all_goals (first | (simp [zA4, *];done) | (simp [zA4, *];omega) | (exfalso;clear hs hr;simp_all;done) | go_ways)
theorem zAK {w:World} {b o:Nat} {v:Value} (h:w.cell? ⟨b,o,none⟩=some v):b < w.heap.size:=by
 rcases Nat.lt_or_ge b w.heap.size with hl | hl
 ·exact hl
 ·simp [World.cell?,Array.getElem?_eq_none hl] at h
theorem zP0 (w:World) (x y:Int) (T:TypeId):IntsAt (w.alloc (.cells #[.int .i64 x,.int .i64 y] T)) (some ⟨w.heap.size,0,none⟩) [x,y]:=fun k hk => by
 refine ⟨w.heap.size,0,rfl,by simp,?_⟩
 rw [World.cell?_alloc_at _ _ _ _ rfl]
 match k,hk with
 | 0,_ => rfl
 | 1,_ => rfl
def minF (m:Int) (l:List Int):Int:=l.foldl min m
theorem zPQ (a:Option Addr) (x:Int) (xs:List Int) (c:Nat) (w:World) (hl:xs.length≤1000) (hx:IntsAt w a (x :: xs)) :
  Calls Tryz.prog 209 #[.slice a (x :: xs).length c] w fun e w' => e=.returned (.int .i64 (minF x xs))∧w=w':=by
 obtain ⟨b0,o0,ha0,hb0,c0⟩:=hx 0 (by simp)
 subst ha0
 have c0' : w.cell? ⟨b0,o0,none⟩=some (.int .i64 x):=by simpa using c0
 clear c0
 have hne:decide (((x :: xs).length:Int) < 1)=false:=by simp;omega
 have hpos:0 < (x :: xs).length:=by simp
 obtain ⟨n,hn⟩:∃ n,(x :: xs).length=n:=⟨_,rfl⟩
 have hn1:n=xs.length + 1:=by rw [← hn];simp
 rw [hn] at hne hpos ⊢
 have Hn:=Lib.hid hn1
 have hn2:n≤1001:=by omega
 clear hn1
 have Hn':=Lib.hid hn
 clear hn
 go_enter Tryz.func209,Tryz.ntmps209
 go_wp2
 go_loop [3,4] (fun m i => ∃ k:Nat,k + 1≤n∧i=.int .i64 (k + 1:Nat)∧m=.int .i64 (minF x (xs.take k))) (fun _ i => n - (intOf i).toNat)
 case atStart => exact ⟨0,by omega,rfl,rfl⟩
 case round =>
  obtain ⟨k,hk,rfl,rfl⟩:=hrel
  by_cases hlt:k + 1 < n
  ·obtain ⟨b',o',e,_,c1⟩:=hx (k + 1) (by rw [Hn'.out];exact hlt)
   obtain ⟨rfl,rfl⟩:b0=b'∧o0=o':=by simpa using e
   have hkx:k < xs.length:=by have:=Hn.out;omega
   have c1' : w.cell? ⟨b0,o0 + (k + 1),none⟩=some (.int .i64 xs[k]):=by rw [c1];simp [hkx]
   clear c1 e
   have hs:minF x (xs.take (k + 1))=min (minF x (xs.take k)) xs[k]:=by
    unfold minF
    rw [List.take_succ_eq_append_getElem hkx,List.foldl_append]
    rfl
   have Hs:=Lib.hid hs
   clear hs
   obtain ⟨y,hy⟩:∃ y,xs[k]=y:=⟨_,rfl⟩
   rw [hy] at c1' Hs
   have Hy:=Lib.hid hy
   clear hy
   obtain ⟨m,hm⟩:∃ m,minF x (xs.take k)=m:=⟨_,rfl⟩
   rw [hm] at Hs ⊢
   clear hm
   go_wp2
   go_round
   case rel => exact ⟨k + 1,by omega,by go_num,by rw [Hs.out];congr 1;split <;> omega⟩
   case measure => simp [intOf];omega
  ·obtain rfl:n=k + 1:=by omega
   go_wp2
   go_ret
   have:k=xs.length:=by have:=Hn.out;omega
   exact ⟨zIg (by rw [this,List.take_length]),rfl⟩
theorem zC1 (a:Option Addr) (x y:Int) (c:Nat) (w:World) (hx:IntsAt w a [x,y]) :
  Calls Tryz.prog 155 #[.slice a 2 c] w fun e w' => e=.returned (.int .i64 (min x y))∧w=w':=by
 have h:Calls Tryz.prog 209 #[.slice a 2 c] w fun e w' => e=.returned (.int .i64 (min x y))∧w=w':=zPQ a x [y] c w (by simp) hx
 go_enter Tryz.func155,Tryz.ntmps155
 go_wp2_with (go_at_call 209;(with_reducible refine h.mono ?_);rintro e w1 ⟨rfl,rfl⟩)
 go_ret
 exact ⟨rfl,rfl⟩
theorem zIW (h:Int) (B:Nat) (w:World) (hc:w.cell? ⟨B,0,none⟩=some (.int .i64 h)) (x:Int × Int):zAc Tryz.prog w 208 #[] #[.pointer (some ⟨B,0,none⟩)] (.agg #[.int .i64 x.1,.int .i64 x.2]) (inR h x):=by
 intro w' hb'
 have hB:=zAK hc
 have hc' : w'.cell? ⟨B,0,none⟩=some (.int .i64 h):=(hb'.cell (p:=⟨B,0,none⟩) hB).trans hc
 have hBw:B < w'.heap.size:=Nat.lt_of_lt_of_le hB hb'.size
 clear hc
 show Calls Tryz.prog 208 #[.agg #[.int .i64 x.1,.int .i64 x.2],.pointer (some ⟨B,0,none⟩)] w' _
 go_enter Tryz.func208,Tryz.ntmps208
 go_wp2_with (go_at_call 147;refine (zJA _ _ _ _).mono ?_;rintro e w1 ⟨rfl,hb1⟩;obtain ⟨hc1,hf1,hz1⟩:=zAk hb1;(try simp at hz1);(try (have hy0:w.heap.size < w1.heap.size:=by omega));(try (have hy1:w.heap.size + 1 < w1.heap.size:=by omega));(try (have hy2:w.heap.size + 2 < w1.heap.size:=by omega)))
 go_ret
 exact ⟨rfl,by exact zzL⟩
theorem zIV (ar:Option Addr) (ca:Nat) (l:Leg) (h:Int) (w:World) (hr:zAX w ar l.asl) (hn:l.asl.length≤1000) (ha:l.asl.all (fun r => zCk r 30)=true) (h0:0≤h) (h1:h≤1000) :
  Calls Tryz.prog 154 #[.agg #[.int .i64 l.lo,.int .i64 l.hi,.slice ar l.asl.length ca],.int .i64 h] w fun e w' => e=.returned (.int .i64 (awk l h))∧Below w.heap.size w w':=by
 have Ha:=Lib.hid ha
 clear ha
 go_enter Tryz.func154,Tryz.ntmps154
 go_wp2
 obtain ⟨lo,hlo⟩:∃ x,x=l.lo:=⟨_,rfl⟩
 obtain ⟨hi,hhi⟩:∃ x,x=l.hi:=⟨_,rfl⟩
 rw [← hlo,← hhi]
 clear hlo hhi
 go_loopg [] (31 - h).toNat (fun k wr => ∃ g:Int,h≤g∧g≤1000∧awk l h=awk l g∧(31 - g).toNat≤k∧Below w.heap.size w wr∧wr.cell? ⟨w.heap.size,2,none⟩=some (.slice ar l.asl.length ca)∧wr.cell? ⟨w.heap.size + 1,0,none⟩=some (.int .i64 g)∧wr.frozen? ⟨w.heap.size + 1,0,none⟩=false)
 case atStart => 
  refine ⟨h,by omega,h1,rfl,Nat.le_refl _,by exact zzL,?_,?_,?_⟩ <;> go_simp
 case round =>
  obtain ⟨g,hg0,hg1,hag,hgk,hb,c2,cg,fg⟩:=hrel
  have Hag:=Lib.hid hag
  clear hag
  have lg:=zAK cg
  have lw:w.heap.size < wr.heap.size:=by omega
  have hR:=hr.below hb
  have hcf:Calls Tryz.prog 207 #[.slice ar l.asl.length ca,.func (.func 208) #[] #[.pointer (some ⟨w.heap.size + 1,0,none⟩)]] wr fun e w' => e=.returned (.bool (zDr l g))∧Below wr.heap.size wr w' :=
   zC4 ar l.asl ca 208 #[] #[.pointer (some ⟨w.heap.size + 1,0,none⟩)] (inR g) wr (by omega) hR (enters Tryz.func208 (by kernel_rfl) rfl) (fun x _ => zIW g (w.heap.size + 1) wr cg x)
  cases hA:zDr l g
  ·rw [hA] at hcf
   have Hup:=Lib.hid (zQW hA)
   clear hA
   go_wp2_with (go_at_call 207;(with_reducible refine hcf.mono ?_);rintro e w1 ⟨rfl,hb1⟩;obtain ⟨hc1,hf1,hz1⟩:=zAk hb1)
   go_ret
   exact ⟨zIg (by rw [Hag.out,Hup.out]),hb.trans (hb1.mono hb.size)⟩
  ·rw [hA] at hcf
   have hle:=zIX Ha.out hA
   have Hsl:=Lib.hid (zNK Ha.out hA)
   clear hA
   go_wp2_with (go_at_call 207;(with_reducible refine hcf.mono ?_);rintro e w1 ⟨rfl,hb1⟩;obtain ⟨hc1,hf1,hz1⟩:=zAk hb1)
   go_roundg (30 - g).toNat
   case measure => omega
   case rel =>
    have b1:=hb.trans (hb1.mono hb.size)
    refine ⟨g + 1,by omega,by omega,by rw [Hag.out,Hsl.out],by omega,b1.setCell (by simp) _,?_,?_,?_⟩ <;> go_simp
structure PostHours (p:Post):Prop where
 s:∀ n ∈ p.sends,0≤n∧n≤30
 p:0≤p.pat∧p.pat≤30
theorem zDW (a:Option Addr) (c:Nat) (ar:Option Addr) (n cr:Nat) (sends:List Int) (pat:Int) (k:Nat) (w:World) (hs:IntsAt w a sends) (hk:k < sends.length) (ls:sends.length≤1000) (b0:0≤sends[k]∧sends[k]≤1000) (b1:0≤pat∧pat≤1000) :
  Calls Tryz.prog 93 #[.agg #[.slice a sends.length c,.slice ar n cr,.int .i64 pat],.int .i64 k] w fun e w' => e=.returned (.int .i64 (sends[k] + pat))∧Below w.heap.size w w':=by
 obtain ⟨b,off,rfl,hbl,hc⟩:=hs k hk
 have hc' : w.cell? ⟨b,off + k,none⟩=some (.int .i64 sends[k]):=by rw [hc];simp [hk]
 have hkI:(k:Int) < (sends.length:Int):=by omega
 have hbw:b < w.heap.size + 1:=by omega
 have hs1:IntKind.i64.wrap (sends[k] + pat)=sends[k] + pat:=IntWalk.i64_in _ (by omega)
 clear hc
 go_enter Tryz.func93,Tryz.ntmps93
 go_wp2
 (refine zAC 8 (by kernel_rfl) (by kernel_rfl) ?_;simp only [zzA,zzB,zzC,zzD];(repeat (go_big_quiet_step ((fail))));refine wpQuiet_nil ?_;rintro _ ⟨ex,rfl⟩;have hex:=ex.below;have hexz:=ex.size;(try simp at hexz);(try (have hy0:w.heap.size < ex.to.heap.size:=by omega));(try (have hy1:w.heap.size + 1 < ex.to.heap.size:=by omega));(try (have hy2:w.heap.size + 2 < ex.to.heap.size:=by omega)))
 go_wp2
 go_ret
 exact ⟨rfl,by exact zzL⟩
def zC7 (p:Post) (n:Nat) (before hour:Int):Ent:=⟨n,max before (min hour (p.sends.getD n 0 + p.pat)),decide (p.sends.getD n 0 + p.pat < hour)⟩
theorem zP6 {w:World} {b:Nat} {T:TypeId} {u0 u1 u2:Value} (h:Cells w b #[u0,u1,u2] T) (v0 v1 v2:Value) (o:Obj):Cells ((((w.setCell ⟨b,0,none⟩ v0).setCell ⟨b,1,none⟩ v1).setCell ⟨b,2,none⟩ v2).alloc o) b #[v0,v1,v2] T:=by
 have:=(((h.set 0 v0).set 1 v1).set 2 v2).alloc o
 simpa using this
theorem zMr {w w1:World} {b:Nat} {B:Nat} (h:Below B w w1) (hb:B≤b) (hB:B≤w1.heap.size) (v0 v1 v2:Value) (o:Obj):Below B w ((((w1.setCell ⟨b,0,none⟩ v0).setCell ⟨b,1,none⟩ v1).setCell ⟨b,2,none⟩ v2).alloc o) :=
 (((h.setCell (p:=⟨b,0,none⟩) hb _).setCell (p:=⟨b,1,none⟩) hb _).setCell (p:=⟨b,2,none⟩) hb _).alloc (by simpa using hB) _
theorem zNv {w:World} {b:Nat} {v0 v1 v2:Value} (h:Cells w b #[v0,v1,v2] 182) :
  (loadVar 182 ⟨b,0,none⟩).run Tryz.prog w=.ok (.agg #[v0,v1,v2]) w:=by
 have hi:=Tryz.isAgg182
 have hs:=Tryz.sizeOf182
 have k0:=h.cell 0
 have k1:=h.cell 1
 have k2:=h.cell 2
 simp at k0 k1 k2
 unfold loadVar
 go_simp
theorem zIi (a:Option Addr) (c:Nat) (ar:Option Addr) (cr:Nat) (p:Post) (k:Nat) (before hour:Int) (w:World) (hs:IntsAt w a p.sends) (hk:k < p.sends.length) (ls:p.sends.length≤1000) (b0:0≤p.sends[k]∧p.sends[k]≤1000) (b1:0≤p.pat∧p.pat≤1000) :
  Calls Tryz.prog 161 #[.agg #[.slice a p.sends.length c,.slice ar p.routes.length cr,.int .i64 p.pat],.int .i64 k,.int .i64 before,.int .i64 hour] w fun e w' => e=.returned (.agg #[.int .i64 k,.int .i64 (zC7 p k before hour).at_,.bool (zC7 p k before hour).skip])∧Below w.heap.size w w':=by
 have hdl:∀ W,Below w.heap.size w W→Calls Tryz.prog 93 #[.agg #[.slice a p.sends.length c,.slice ar p.routes.length cr,.int .i64 p.pat],.int .i64 k] W fun e w' => e=.returned (.int .i64 (p.sends[k] + p.pat))∧Below W.heap.size W w' :=
  fun W b => zDW a c ar p.routes.length cr p.sends p.pat k W (hs.below b) hk ls b0 b1
 have Hat:Hid ((zC7 p k before hour).at_=max before (min hour (p.sends[k] + p.pat))):=Lib.hid (by simp [zC7,hk])
 have Hsk:Hid ((zC7 p k before hour).skip=decide (p.sends[k] + p.pat < hour)):=Lib.hid (by simp [zC7,hk])
 obtain ⟨d,hd⟩:∃ d,p.sends[k] + p.pat=d:=⟨_,rfl⟩
 rw [hd] at hdl Hat Hsk
 obtain ⟨x,hx⟩:∃ x,(zC7 p k before hour).at_=x:=⟨_,rfl⟩
 obtain ⟨y,hy⟩:∃ y,(zC7 p k before hour).skip=y:=⟨_,rfl⟩
 rw [hx] at Hat ⊢
 rw [hy] at Hsk ⊢
 clear hx hy hd
 have hw0:∀ o o',Below w.heap.size w ((w.alloc o).alloc o'):=fun o o' => ((Below.refl _ _).alloc (Nat.le_refl _) _).alloc (by simp) _
 have C0:Cells ((w.alloc (.cells #[.slice a p.sends.length c,.slice ar p.routes.length cr,.int .i64 p.pat] 51)).alloc (.cells #[.int .i64 0,.int .i64 0,.bool false] 182)) (w.heap.size + 1) #[.int .i64 0,.int .i64 0,.bool false] 182:=Cells.new' _ _ _ _ (by simp)
 have s0:∀ {A B:Int},A≤B→max A B=B:=fun h => by omega
 by_cases hm:min hour d < before
 all_goals
  go_enter Tryz.func161,Tryz.ntmps161
  go_wp2_with (go_at_call 93;(with_reducible refine (hdl _ (hw0 _ _)).mono ?_);rintro e w1 ⟨rfl,hb1⟩)
  have C1:=C0.below hb1
  have hB:Below w.heap.size w w1:=(hw0 _ _).trans (hb1.mono (hw0 _ _).size)
  clear C0 hb1
  have e0:=C1.cell 0
  have e1:=C1.cell 1
  have e2:=C1.cell 2
  have f0:=C1.frozen 0
  have f1:=C1.frozen 1
  have f2:=C1.frozen 2
  have lB:=C1.lt
  simp at e0 e1 e2
  go_wp2_with (go_at_call 155;(with_reducible refine (zC1 _ hour d 2 _ (zP0 w1 hour d _)).mono ?_);rintro e w2 ⟨rfl,rfl⟩)
  all_goals
   refine bodyPost_ret (zBR rfl rfl (zNv (zP6 C1 _ _ _ _))) rfl ⟨?_,zMr hB (by omega) hB.size _ _ _ _⟩
   rw [Hat.out,Hsk.out]
   first
    | rw [show max before (min hour d)=before by omega]
    | rw [show max before (min hour d)=min hour d by omega]
def zDt (w:World) (a:Option Addr) (xss:List (List Int)):Prop :=
 ∀ k (h:k < xss.length),∃ b off a2 c,a=some ⟨b,off,none⟩∧b < w.heap.size∧w.cell? ⟨b,off + k,none⟩=some (.slice a2 xss[k].length c)∧IntsAt w a2 xss[k]∧(a2=none→c=0)
theorem zDt.below {w w' : World} {a:Option Addr} {xs:List (List Int)} (h:zDt w a xs) (hb:Below w.heap.size w w'):zDt w' a xs:=fun k hk =>
 let ⟨b,off,a2,c,ha,hlt,h0,h1,h2⟩:=h k hk
 ⟨b,off,a2,c,ha,Nat.lt_of_lt_of_le hlt hb.size,(hb.cell (p:=⟨b,_,none⟩) hlt).trans h0,h1.below hb,h2⟩
theorem zDt.nil (w:World) (a:Option Addr):zDt w a []:=fun k hk => absurd hk (Nat.not_lt_zero k)
def zCc (w:World) (a:Option Addr) (t:List (List (List Int))):Prop :=
 ∀ k (h:k < t.length),∃ b off a2 c,a=some ⟨b,off,none⟩∧b < w.heap.size∧w.cell? ⟨b,off + k,none⟩=some (.slice a2 t[k].length c)∧zDt w a2 t[k]∧(a2=none→c=0)
theorem zCc.below {w w' : World} {a:Option Addr} {xs:List (List (List Int))} (h:zCc w a xs) (hb:Below w.heap.size w w'):zCc w' a xs:=fun k hk =>
 let ⟨b,off,a2,c,ha,hlt,h0,h1,h2⟩:=h k hk
 ⟨b,off,a2,c,ha,Nat.lt_of_lt_of_le hlt hb.size,(hb.cell (p:=⟨b,_,none⟩) hlt).trans h0,h1.below hb,h2⟩
theorem zCc.nil (w:World) (a:Option Addr):zCc w a []:=fun k hk => absurd hk (Nat.not_lt_zero k)
theorem zHV {w w' : World} {b o:Nat} {v:Value} (hb:Below w.heap.size w w') (hl:b < w.heap.size) (h:w.cell? ⟨b,o,none⟩=some v):w'.cell? ⟨b,o,none⟩=some v:=(hb.cell (p:=⟨b,o,none⟩) hl).trans h
theorem zAi {p:Post} (h:zA4 p=0):p.sends.length≤4∧p.routes.length≤3∧p.routes.all zBo=true∧p.sends≠[]∧p.routes≠[]∧inR p.pat (0,30)=true∧p.sends.all (fun n => inR n (0,30))=true∧zDJ p.sends=true∧p.routes.all zBv=true:=by
 unfold zA4 at h
 split at h
 ·cases h
 ·rename_i h1
  split at h
  ·cases h
  ·rename_i h2
   simp only [not_or,Nat.not_lt,Bool.not_eq_false] at h1 h2
   exact ⟨h1.1,h1.2.1,h1.2.2,h2.1,h2.2.1,h2.2.2.1,h2.2.2.2.1,h2.2.2.2.2.1,h2.2.2.2.2.2⟩
theorem zD2 (p:Post):0≤zA4 p∧zA4 p≤3:=by
 unfold zA4;split
 ·omega
 ·split <;> omega
theorem zDl {n lo hi:Int}:inR n (lo,hi)=true↔lo≤n∧n≤hi:=by simp [inR]
theorem zBg {p:Post} (h:zA4 p=0):PostHours p:=by
 obtain ⟨_,_,_,_,_,h6,h7,_,_⟩:=zAi h
 exact ⟨fun n hn => zDl.1 (List.all_eq_true.1 h7 n hn),zDl.1 h6⟩
theorem zHo {p:Post} (h:zA4 p=0):∀ r ∈ p.routes,r.legs.length≤3∧r.legs.all zDC=true∧∀ l ∈ r.legs,l.asl.length≤1000:=by
 obtain ⟨_,_,h3,_,_,_,_,_,h9⟩:=zAi h
 intro r hr
 have a:=List.all_eq_true.1 h3 r hr
 have b:=List.all_eq_true.1 h9 r hr
 simp only [zBo,zBv,Bool.and_eq_true,decide_eq_true_eq] at a b
 refine ⟨a.1,b.2,fun l hl => ?_⟩
 have:=List.all_eq_true.1 a.2 l hl
 simp at this;omega
open Go.RowKit Go.Flow Go.Shelf
structure KX (n₀ bm:Nat) (W W' : World):Prop where
 size:W.heap.size≤W'.heap.size
 cell:∀ (a:Addr) (v:Value),a.block < n₀→a.block≠bm→W.cell? a=some v→W'.cell? a=some v
theorem KX.refl (n₀ bm:Nat) (W:World):KX n₀ bm W W:=⟨Nat.le_refl _,fun _ _ _ _ h => h⟩
theorem KX.trans {n₀ bm:Nat} {A B C:World} (h:KX n₀ bm A B) (k:KX n₀ bm B C):KX n₀ bm A C:=⟨Nat.le_trans h.size k.size,fun a v hl hn hc => k.cell a v hl hn (h.cell a v hl hn hc)⟩
theorem KX.below {n₀ bm:Nat} {W W' : World} (hb:Below W.heap.size W W'):KX n₀ bm W W':=⟨hb.size,fun _ _ _ _ h => zAA hb h⟩
theorem KX.below' {n₀ bm:Nat} {W W' : World} (hb:Below n₀ W W'):KX n₀ bm W W':=⟨hb.size,fun _ _ hl _ h => by rw [hb.cell hl];exact h⟩
theorem KX.putObj {n₀ bm:Nat} (W:World) (l:Nat) (o o' : Obj) (h:W.heap[l]?=some o) (ho:o.isCells=false):KX n₀ bm W (W.putObj l o') :=
 ⟨(grownBy_putObj' W l o').size,fun a v _ _ hc => cell_kept hc (grownBy_putObj' W l o') (fun r e => by cases e;exact ⟨o,h,ho⟩)⟩
theorem KX.setCell {n₀ bm:Nat} (W:World) (k:Nat) (v:Value):KX n₀ bm W (W.setCell ⟨bm,k,none⟩ v) :=
 ⟨by simp,fun a u _ hn hc => by rw [World.cell?_setCell_other _ _ _ _ (fun e => hn (by rw [← e]))];exact hc⟩
abbrev HV (f:Hrs):={ n:Nat // n < 101∧f n=true }
def encH {f:Hrs} (x:HV f):Array Value:=#[.int .i64 x.1]
def hvs (f:Hrs):(k:Nat)→k≤101→List (HV f)
 | 0,_ => []
 | k + 1,h => hvs f k (by omega) ++ (if hf:f k=true then [⟨k,by omega,hf⟩] else [])
theorem zIx (f:Hrs):∀ (k:Nat) (h:k≤101),(hvs f k h).map (·.1)=(List.range k).filter f
 | 0,_ => rfl
 | k + 1,h => by
  simp only [hvs,List.map_append,zIx f k (by omega),List.range_succ,List.filter_append]
  congr 1
  by_cases hf:f k=true
  ·simp [hf]
  ·simp [hf]
theorem zIy (f:Hrs):∀ (k:Nat) (h:k≤101),(hvs f k h).length≤k
 | 0,_ => Nat.le_refl _
 | k + 1,h => by
  simp only [hvs,List.length_append]
  have:=zIy f k (by omega)
  split <;> simp <;> omega
def SetC (w:World) (B:Nat) (f:Hrs):Prop:=∀ n,n < 101→w.cell? ⟨B,n,none⟩=some (.bool (f n))
theorem SetC.below {w w' : World} {B:Nat} {f:Hrs} (h:SetC w B f) (hb:Below w.heap.size w w'):SetC w' B f:=fun n hn => zAA hb (h n hn)
theorem SetC.lt {w:World} {B:Nat} {f:Hrs} (h:SetC w B f):B < w.heap.size:=zAK (h 0 (by omega))
attribute [local go_sem] Oper.semAt_some
theorem zGe (n:Nat) (hn:2≤n) (n₀ bm Pb Sb:Nat) (f:Hrs) (w:World) (hP:w.cell? ⟨Pb,0,none⟩=some (.pointer (some ⟨Sb,0,none⟩))) (hS:SetC w Sb f) (pn:Pb < n₀) (sn:Sb < n₀) (pb:Pb≠bm) (sb:Sb≠bm) :
  SeqStopsK Fence.wide n Tryz.prog 206 #[.pointer (some ⟨Pb,0,none⟩)] (encH (f:=f)) (KX n₀ bm) (fun xs => xs=hvs f 101 (Nat.le_refl _)) (fun _ => True) 101 w:=fun l J Jx W hW hJ hJx hY h0 => by
 have hP':=zAA hW hP
 have hS':=hS.below hW
 clear hW hP hS
 have h1n:1≤n:=by omega
 refine callsIn_of_wp Tryz.func206 rfl trivial ?_ rfl
 simp only [Tryz.ntmps206,List.size_toArray,List.length_cons,List.length_nil,Nat.reduceAdd,Nat.reduceSub,Array.replicate_succ,Array.replicate_zero,List.push_toArray,List.append_toArray,List.nil_append,List.cons_append]
 gi_wp2
 gi_loopw [4] (fun i wr => ∃ (k:Nat) (hk:k≤101),i=.int .i64 k∧J (hvs f k hk) wr∧KX n₀ bm W wr) (fun i _ => 101 - (intOf i).toNat)
 case atStart => exact ⟨0,by omega,rfl,h0,KX.refl _ _ _⟩
 case round =>
  obtain ⟨k,hk,rfl,hJ1,hck⟩:=hrel
  have q0:=hck.cell _ _ pn pb hP'
  have lP:=zAK q0
  by_cases hlt:k < 101
  ·have q1:=hck.cell _ _ sn sb (hS' k hlt)
   have lS:=zAK q1
   cases hf:f k
   ·rw [hf] at q1
    have Hs:Hid (hvs f (k + 1) (by omega)=hvs f k hk):=Lib.hid (by simp only [hvs];rw [dif_neg (by simp [hf])];simp)
    clear hf
    gi_wp2
    refine ⟨fun _ h => (by cases h),?_⟩
    gi_wp2
    go_roundw
    case rel => exact ⟨k + 1,by omega,by go_num,by rw [Hs.out];exact hJ1,hck⟩
    case measure => simp [intOf];omega
   ·rw [hf] at q1
    have Hs:Hid (hvs f (k + 1) (by omega)=hvs f k hk ++ [⟨k,by omega,hf⟩]):=Lib.hid (by simp only [hvs];rw [dif_pos hf])
    obtain ⟨x,hx⟩:∃ x:HV f,x=⟨k,by omega,hf⟩:=⟨_,rfl⟩
    have hxk:x.1=k:=by rw [hx]
    rw [← hx] at Hs
    clear hx hf
    have hlen:=zIy f k hk
    obtain ⟨fn,tmps,assign,body,hy,hR⟩:=hY (hvs f k hk) x wr hJ1 (by omega)
    dsimp only [encH] at hy
    rw [hxk] at hy
    gi_wp2
    refine hR.mono ?_
    rintro e w7 (⟨rfl,hJ7,hk7⟩ | ⟨rfl,hJx7⟩)
    ·gi_wp2
     go_roundw
     case rel => exact ⟨k + 1,by omega,by go_num,by rw [Hs.out];exact hJ7,hck.trans hk7⟩
     case measure => simp [intOf];omega
    ·gi_wp2
     refine bodyPost_ret (results_none rfl _ _ _) rfl ?_
     exact ⟨⟨_,rfl⟩,.inr ⟨_,trivial,hJx7⟩⟩
  ·obtain rfl:k=101:=by omega
   gi_wp2
   go_end0
   exact ⟨⟨_,rfl⟩,.inl ⟨_,rfl,hJ1⟩⟩
end Go.Proofs.YticjeianiahppaaGreatDoor.Cps
namespace Go.Proofs.YticjeianiahppaaGreatDoor.Cps
open Go.RowKit Go.Flow Go.Shelf
attribute [local go_sem] Oper.semAt_some
theorem zCq:(Tryz.prog.info? 3).map (fun i => (i.zero,i.size,i.bytes))=some (some (.int .i64 0),1,8):=by kernel_rfl
theorem zGM:Elem Tryz.prog 22 3 (.int .i64 0) 1 8:=⟨Tryz.underlying22,info_parts zCq,rfl,by decide⟩
def zMa (f:Hrs) (l:List (HV f)):List Value:=l.map fun x => .int .i64 x.1
theorem zGA (Pb Sb:Nat) (f:Hrs) (L:List (HV f)) (HL:Hid (hvs f 101 (Nat.le_refl _)=L)) (w:World) (hP:w.cell? ⟨Pb,0,none⟩=some (.pointer (some ⟨Sb,0,none⟩))) (hS:SetC w Sb f) :
  Calls Tryz.prog 267 #[.slice none 0 0,.func (.func 206) #[] #[.pointer (some ⟨Pb,0,none⟩)]] w fun e w' => ∃ v,e=.returned v∧w'.ownsRow w.heap.size 3 1 v L.length (zMa f L)∧Below w.heap.size w w':=by
 obtain ⟨i0,hi,hz0,hz1,hz2⟩:=info_parts zCq
 have lP:=zAK hP
 have lS:=hS.lt
 have hB0:Below w.heap.size w (w.alloc (.cells #[.slice none 0 0] 22)):=(Below.refl _ w).alloc (Nat.le_refl _) _
 have bO:=Boxed.new w 22 (.slice none 0 0)
 have hP1:=zAA hB0 hP
 have hS1:=hS.below hB0
 clear hP hS
 refine (callsIn_wide (n:=5)).1 ?_
 refine callsIn_of_wp_marks Tryz.func267 rfl trivial ?_ rfl
 simp only [Tryz.ntmps267,List.size_toArray,List.length_cons,List.length_nil,Nat.reduceAdd,Nat.reduceSub,Array.replicate_succ,Array.replicate_zero,List.push_toArray,List.append_toArray,List.nil_append,List.cons_append]
 gi_wp2
 obtain ⟨w1,hw1⟩:∃ z:World,z=w.alloc (.cells #[.slice none 0 0] 22):=⟨_,rfl⟩
 have z1:w1.heap.size=w.heap.size + 1:=by rw [hw1];simp
 rw [← hw1] at bO hP1 hS1 hB0 ⊢
 clear hw1
 refine wpIn_rangeFunc_ownG rfl (by omega) (gf:=206) (lb:=#[.pointer (some ⟨Pb,0,none⟩)]) rfl trivial (enters_of Tryz.func206 (by kernel_rfl) rfl)
  (zGe 4 (by omega) w.heap.size w.heap.size Pb Sb f w1 hP1 hS1 lP lS (by omega) (by omega)) KX.trans (fun W l o o' _ h ho _ => KX.putObj W l o o' h ho) (Below.refl _ _) (fun _ => rfl)
  (fun pre W => (∃ v,Boxed W w.heap.size 22 v∧W.ownsRow w.heap.size 3 1 v pre.length (zMa f pre)∧True)∧Below w.heap.size w W)
  (fun _ _ _ => False)
  (OwnFrom.and (Own.from (holdsRow_own w.heap.size w.heap.size 22 3 1 (fun pre => pre.length) (fun pre => zMa f pre) (fun _ _ => True)) _) (ownFrom_below (Nat.le_refl _) (by omega)))
  (fun _ _ _ _ _ hs _ _ => hs)
  ⟨⟨_,bO,World.ownsRow_nil _ _ _ _,trivial⟩,hB0⟩
  (fun x => { tmps:=#[.slice none 0 0,.func (.func 206) #[] #[.pointer (some ⟨Pb,0,none⟩)],.pointer (some ⟨w.heap.size,0,none⟩),undef,.slice none 0 0,.int .i64 x.1,.func (.func 206) #[] #[.pointer (some ⟨Pb,0,none⟩)],.int .i64 x.1,undef,undef,undef,undef,undef],defers:=[] }) ?assign ?body ?done ?stop
 case assign =>
  intro l x W K hK
  unfold encH
  gi_wp2
  exact hK
 case body =>
  rintro l pre x W ⟨⟨v,hv,hrow,_⟩,hB⟩ hlt
  have hc:=hv.cell
  gi_wp2_with (gi_at_builtin;refine wpListIn_append_own _ rfl _ _ 22 rfl w.heap.size 3 i0 (.int .i64 0) 1 8 Tryz.underlying22 hi hz0 hz1 hz2 rfl (by decide) _ _ _ rfl (hrow.alloc _) ⟨W.heap.size,0,none⟩ 1 1 [.int .i64 x.1] rfl rfl (cell_one_new _ _ _) (by simp [Value.oneCell']) (by unfold maxLen;omega) (by omega) (by have:=hB.size;simp;omega) ?_;intro v' w2 hown' hgrow _;obtain ⟨g',cap',rfl⟩:=ownsRow_succ hown'; obtain ⟨hv1,hv2,hr2,hk2,hb2⟩:=hv.appended (by decide) hrow hB.size (Nat.le_refl _) hown' hgrow;have hc1:=hv1.cell;have hf1:=hv1.frozen)
  exact ⟨hk2.from _,KX.below' hb2,⟨_,hv2,by simpa [zMa] using hr2,trivial⟩,hB.trans hb2⟩
 case done =>
  intro D ys W hD hys hI hK
  have hyl:ys=L:=hys.trans HL.out
  clear hys
  subst hyl
  obtain ⟨⟨v,hv,hrow,_⟩,hB⟩:=hI
  have hc:=hv.cell
  gi_wp2
  refine ⟨by simp,.inl ⟨_,_,rfl,run_takeDeferred hK,?_⟩⟩
  exact ⟨_,results_tmp rfl _ _ _,v,rfl,ownsRow_putObj hrow _ hK rfl,hB.trans (belowK_b (w:=w) (Nat.le_refl _) W D _ _ (by omega) hK rfl rfl)⟩
 case stop =>
  rintro D c pre W _ _ h _
  exact h.elim
theorem zFr (f:Hrs):zBK f=(hvs f 101 (Nat.le_refl _)).map (fun x => (x.1:Int)):=by
 unfold zBK
 rw [← zIx f 101 (Nat.le_refl _),List.map_map]
 rfl
theorem zKq (f:Hrs):(zBK f).length≤101:=by rw [zFr,List.length_map];exact zIy f 101 _
theorem zLu {E:TypeId} {size base n:Nat} {w:World} {v:Value} {xs:List Value} (h:w.ownsRow base E size v n xs):∃ a c,v=.slice a n c:=by
 rcases h.2 with ⟨rfl,hn⟩ | ⟨g,cap,cur,rfl,_⟩
 ·exact ⟨none,0,by rw [hn]⟩
 ·exact ⟨_,_,rfl⟩
theorem zGN (Pb Sb:Nat) (f:Hrs) (l:List Int) (Hl:Hid (zBK f=l)) (w:World) (hP:w.cell? ⟨Pb,0,none⟩=some (.pointer (some ⟨Sb,0,none⟩))) (hS:SetC w Sb f) :
  Calls Tryz.prog 210 #[.func (.func 206) #[] #[.pointer (some ⟨Pb,0,none⟩)]] w fun e w' => (∃ a c,e=.returned (.slice a l.length c)∧OwnL 3 1 w.heap.size w' a c l.length (l.map (Value.int .i64)))∧Below w.heap.size w w':=by
 have hc:=zGA Pb Sb f _ (Lib.hid rfl) w hP hS
 have hl2:zMa f (hvs f 101 (Nat.le_refl _))=l.map (Value.int .i64):=by rw [← Hl.out,zFr,List.map_map];rfl
 have hn:(hvs f 101 (Nat.le_refl _)).length=l.length:=by rw [← Hl.out,zFr,List.length_map]
 rw [hl2,hn] at hc
 clear hl2 hn
 go_enter Tryz.func210,Tryz.ntmps210
 go_wp2_with (go_at_call 267;(with_reducible refine hc.mono ?_);rintro e w1 ⟨v,rfl,ho,hb⟩;obtain ⟨a,c,rfl⟩:=zLu ho)
 go_ret
 exact ⟨⟨a,c,rfl,ho⟩,hb⟩
theorem zFH (Sb:Nat) (f:Hrs) (l:List Int) (Hl:Hid (zBK f=l)) (w:World) (hS:SetC w Sb f) :
  Calls Tryz.prog 156 #[.pointer (some ⟨Sb,0,none⟩)] w fun e w' => (∃ a c,e=.returned (.slice a l.length c)∧OwnL 3 1 w.heap.size w' a c l.length (l.map (Value.int .i64)))∧Below w.heap.size w w':=by
 have b0:Below w.heap.size w (w.alloc (.cells #[.pointer (some ⟨Sb,0,none⟩)] 260)):=(Below.refl _ _).alloc (Nat.le_refl _) _
 have hP:(w.alloc (.cells #[.pointer (some ⟨Sb,0,none⟩)] 260)).cell? ⟨w.heap.size,0,none⟩=some (.pointer (some ⟨Sb,0,none⟩)):=by rw [World.cell?_alloc_at _ _ _ _ rfl];rfl
 have hc:=zGN w.heap.size Sb f l Hl _ hP (hS.below b0)
 have he:Calls Tryz.prog 153 #[.pointer (some ⟨Sb,0,none⟩)] w fun e w' => e=.returned (.func (.func 206) #[] #[.pointer (some ⟨w.heap.size,0,none⟩)])∧w.alloc (.cells #[.pointer (some ⟨Sb,0,none⟩)] 260)=w':=by
  go_enter Tryz.func153,Tryz.ntmps153
  go_wp2
  go_ret
  exact ⟨rfl,rfl⟩
 clear hP hS
 go_enter Tryz.func156,Tryz.ntmps156
 go_wp2_with (first
  | (go_at_call 153;(with_reducible refine he.mono ?_);rintro e w1 ⟨rfl,rfl⟩)
  | (go_at_call 210;(with_reducible refine hc.mono ?_);rintro e w1 ⟨⟨a,c,rfl,ho⟩,hb⟩))
 go_ret
 exact ⟨⟨a,c,rfl,ho.base_le (by simp)⟩,b0.trans (hb.mono (by simp))⟩
def lastH (f:Hrs):Int:=(zBK f).getD ((zBK f).length - 1) 0
def zII (f:Hrs):Int:=(zBK f).getD 0 0
theorem zHA (Sb:Nat) (f:Hrs) (x:Int) (Hx:Hid (lastH f=x)) (w:World) (hS:SetC w Sb f) (hne:zBK f≠[]) :
  Calls Tryz.prog 157 #[.pointer (some ⟨Sb,0,none⟩)] w fun e w' => e=.returned (.int .i64 x)∧Below w.heap.size w w':=by
 have hlen:=zKq f
 have hpos:0 < (zBK f).length:=List.length_pos_iff.2 hne
 have hx:(zBK f).getD ((zBK f).length - 1) 0=x:=Hx.out
 have hl:=zFH Sb f _ (Lib.hid rfl) w hS
 generalize zBK f=l at hlen hpos hx hl
 have Hx':=Lib.hid hx
 have hsub:((l.length - 1:Nat):Int)=(l.length:Int) - 1:=by omega
 clear hx hne
 obtain ⟨m,hm⟩:∃ m,l.length=m + 1:=⟨l.length - 1,by omega⟩
 have Hm:=Lib.hid hm
 rw [hm] at hl
 have hm2:m≤100:=by omega
 clear hm hsub hpos hlen
 go_enter Tryz.func157,Tryz.ntmps157
 go_wp2_with fail
 go_at_call 156
 with_reducible refine hl.mono ?_
 rintro e w1 ⟨⟨a,c,rfl,ho⟩,hb⟩
 obtain ⟨b,off,rfl,hbl,hc⟩:=ho.ints.1 m (by rw [Hm.out];omega)
 have hc' : w1.cell? ⟨b,off + m,none⟩=some (.int .i64 x):=by rw [hc,← Hx'.out,Hm.out];simp
 clear hc
 go_wp2_with fail
 go_ret
 exact ⟨rfl,hb⟩
end Go.Proofs.YticjeianiahppaaGreatDoor.Cps
namespace Go.Proofs.YticjeianiahppaaGreatDoor.Cps
open Go.RowKit Go.Flow
open Go.Maps (Keyed)
theorem zFJ : laidOutB Tryz.prog=true:=by kernel_rfl
theorem zEJ:2≤Tryz.prog.types.size:=of_decide_eq_true (by kernel_rfl)
theorem intCells:Tryz.prog.cellsOf 3=1:=by kernel_rfl
theorem zFq (x:Int) (h0:0≤x) (h1:x≤1000000):(Lit.int .i64 x).wf=true:=by
 simp [Lit.wf,IntKind.min,IntKind.max,IntKind.bits,IntKind.signed]
 omega
theorem zCp (n:Nat) (x:Int) (h:(Lit.int .i64 x).wf=true):Tryz.prog.keyLits (n + 1) 3 [.int .i64 x]=some [.int .i64 x]:=by
 simp only [Program.keyLits,Tryz.underlying3]
 simp [h]
theorem zPb:(267:TypeId) < Tryz.prog.types.size:=of_decide_eq_true (by kernel_rfl)
theorem zOW:(match Tryz.prog.underlying 267 with | some (.array _ _) | some (.struct _) => true | _ => false)=true:=by kernel_rfl
theorem zER:Keyed Tryz.prog 267:=Keyed.of_law (deep_law_laid zFJ (m:=4) (by omega) zPb (by kernel_rfl) zOW)
theorem zIS:Tryz.prog.cellsOf 267=2:=by kernel_rfl
theorem zJJ:Tryz.prog.keyType 267=true:=by kernel_rfl
def zB9 (i k:Int):Value:=.agg #[.int .i64 i,.int .i64 k]
theorem zMX (n:Nat) (i k:Int) (hi:(Lit.int .i64 i).wf=true) (hk:(Lit.int .i64 k).wf=true):∃ l,Tryz.prog.keyLits (n + 2) 267 (zB9 i k).cells.toList=some l:=by
 have e0:=zCp n i hi
 have e1:=zCp n k hk
 refine ⟨[.int .i64 i,.int .i64 k],?_⟩
 unfold Program.keyLits
 rw [Tryz.underlying267]
 dsimp only
 rw [zIS]
 simp only [zB9,Value.cells]
 simp [intCells,e0,e1]
theorem zJv (i k:Int) (hi:0≤i∧i≤1000000) (hk:0≤k∧k≤1000000):∃ kl,keyOf Tryz.prog 267 (zB9 i k)=some kl:=by
 have hn:Tryz.prog.types.size + 1=(Tryz.prog.types.size - 1) + 2:=by have:=zEJ;omega
 obtain ⟨l,hl⟩:=zMX (Tryz.prog.types.size - 1) i k (zFq i hi.1 hi.2) (zFq k hk.1 hk.2)
 have hf:Value.formed Tryz.prog 267 (zB9 i k)=true:=by
  simp [Value.formed,Tryz.underlying267,zB9,zIS]
 unfold keyOf
 rw [hn,zJJ,hf,Tryz.underlying267]
 dsimp only
 rw [hl]
 exact ⟨_,rfl⟩
def ptrR:Value→Option (DataW Unit × List MemPlace)
 | .pointer none => some (.nil,[])
 | .pointer (some ⟨b,0,none⟩) => some (.lit (.int .i64 b),[])
 | _ => none
theorem zNk {v:Value} {b:Nat} {ps:List MemPlace} (h:ptrR v=some (.lit (.int .i64 b),ps)):v=.pointer (some ⟨b,0,none⟩):=by
 unfold ptrR at h
 split at h
 ·simp at h
 ·simp at h;rw [Int.ofNat.inj h.1]
 ·cases h
theorem zAg {w w' : World} (hb:Below w.heap.size w w') (row:Option Nat):w.grownBy w' row:=⟨hb.os,hb.tape,hb.output,hb.size,fun k hk _ => hb.block k hk⟩
def zAd (w:World) (bm n:Nat) (F:Nat→Nat→Hrs) (dom:Nat→Nat→Prop):Prop :=
 ∃ D:DataW Unit,w.ownsMap Tryz.prog 267 ptrR bm n D ∧
  ∀ i k:Nat,dom i k→∀ kl,keyOf Tryz.prog 267 (zB9 i k)=some kl→∃ Sb:Nat,D.atKey kl .nil=.lit (.int .i64 Sb)∧SetC w Sb (F i k)
theorem zAd.below {w w' : World} {bm n:Nat} {F:Nat→Nat→Hrs} {dom:Nat→Nat→Prop} (h:zAd w bm n F dom) (hb:Below w.heap.size w w'):zAd w' bm n F dom:=by
 obtain ⟨D,ho,hG⟩:=h
 refine ⟨D,ho.kept (zAg hb none) (by simp),fun i k hd kl hkl => ?_⟩
 obtain ⟨Sb,h1,h2⟩:=hG i k hd kl hkl
 exact ⟨Sb,h1,h2.below hb⟩
theorem zAd.lt {w:World} {bm n:Nat} {F:Nat→Nat→Hrs} {dom:Nat→Nat→Prop} (h:zAd w bm n F dom):bm < w.heap.size:=by
 obtain ⟨D,ho,_⟩:=h
 exact ho.lt
theorem zAd.made (w:World) (F:Nat→Nat→Hrs):zAd (w.alloc (.map #[] 0)) w.heap.size 0 F (fun _ _ => False) :=
 ⟨.map [],World.ownsMap_made w _ _ _,fun _ _ h => h.elim⟩
theorem zAd.sub {w:World} {bm n:Nat} {F:Nat→Nat→Hrs} {dom dom' : Nat→Nat→Prop} (h:zAd w bm n F dom) (hd:∀ i k,dom' i k→dom i k):zAd w bm n F dom':=by
 obtain ⟨D,ho,hG⟩:=h
 exact ⟨D,ho,fun i k h => hG i k (hd i k h)⟩
theorem zOu (w:World):(zeroValue 260).run Tryz.prog w=.ok (.pointer none) w:=by kernel_rfl
theorem zAd.look {w:World} {bm n:Nat} {F:Nat→Nat→Hrs} {dom:Nat→Nat→Prop} (h:zAd w bm n F dom) (i k:Nat) (hd:dom i k) (hi:i≤1000) (hk:k≤1000) :
  ∃ Sb:Nat,(∀ e:Ext w,(Instr.lookup 175 (.map (some bm)) (.agg #[.int .i64 i,.int .i64 k]) false).run Tryz.prog e.to=.ok (.pointer (some ⟨Sb,0,none⟩)) e.to)∧SetC w Sb (F i k):=by
 obtain ⟨D,ho,hG⟩:=h
 obtain ⟨kl,hkl⟩:=zJv i k (by omega) (by omega)
 obtain ⟨Sb,h1,h2⟩:=hG i k hd kl hkl
 refine ⟨Sb,fun e => ?_,h2⟩
 obtain ⟨v,ps,hrun,hv⟩:=World.ownsMap.lookup (ho.kept (zAg e.below none) (by simp)) zER Tryz.underlying175 (zOu e.to) (zd:=.nil) (zp:=[]) rfl hkl
 rw [h1] at hv
 rw [zNk hv] at hrun
 exact hrun
theorem zAd.noCell {w:World} {bm n:Nat} {F:Nat→Nat→Hrs} {dom:Nat→Nat→Prop} (h:zAd w bm n F dom) {b o:Nat} {v:Value} (hc:w.cell? ⟨b,o,none⟩=some v):b≠bm:=by
 obtain ⟨D,⟨es,c,hm,_⟩,_⟩:=h
 intro e
 subst e
 simp [World.cell?,show w.heap[b]?=_ from hm] at hc
theorem zEt {w:World} {ops:Array Oper} {rest:List Oper} {o:Oper} {a:Act} {Q:Exit→Act→World→Prop} {bm n:Nat} {F:Nat→Nat→Hrs} {dom:Nat→Nat→Prop} (i k:Nat) (hi:i≤1000) (hk:k≤1000)
  (hg:o.guard=none) (m x v:Operand) (hop:o.op=Op.mapUpdate 175 m x v) (hm:a.eval m=.map (some bm)) (hx:a.eval x=.agg #[.int .i64 i,.int .i64 k]) (Sb:Nat) (hv:a.eval v=.pointer (some ⟨Sb,0,none⟩))
  (hS:SetC w Sb (F i k)) (h:zAd w bm n F dom) (hn:n < maxLen) (hK:∀ w',zAd w' bm (n + 1) F (fun i' k' => dom i' k'∨(i'=i∧k'=k))→w.grownBy w' (some bm)→(∀ b o v,w.cell? ⟨b,o,none⟩=some v→w'.cell? ⟨b,o,none⟩=some v)→wpList Tryz.prog ops Q rest (a.put o.dst undef) w') :
  wpList Tryz.prog ops Q (o :: rest) a w:=by
 have hnc:=@zAd.noCell _ _ _ _ _ h
 obtain ⟨D,ho,hG⟩:=h
 obtain ⟨kl,hkl⟩:=zJv i k (by omega) (by omega)
 refine wpList_mapUpdate_own w hg m x v 175 hop 267 260 zER Tryz.underlying175 ptrR bm n D hm ho hn (.agg #[.int .i64 i,.int .i64 k]) (.pointer (some ⟨Sb,0,none⟩)) kl hx hv hkl
  (.lit (.int .i64 Sb)) [] rfl fun w' ho' hgr => ?_
 have hcell:∀ b o v,w.cell? ⟨b,o,none⟩=some v→w'.cell? ⟨b,o,none⟩=some v:=fun b o v hc => hgr.cell hc (fun e => hnc hc (Option.some.inj e))
 refine hK w' ⟨_,ho',fun i' k' hd kl' hkl' => ?_⟩ hgr hcell
 by_cases e:kl'=kl
 ·subst e
  have es:=zER.inj hkl hkl'
  obtain ⟨rfl,rfl⟩:i=i'∧k=k':=by simp [zB9] at es;omega
  exact ⟨Sb,by rw [Go.Maps.atKey_put_same ho.isMap (zER.key hkl)],fun n hn => hcell _ _ _ (hS n hn)⟩
 ·rcases hd with hd | ⟨rfl,rfl⟩
  ·obtain ⟨Sb',h1,h2⟩:=hG i' k' hd kl' hkl'
   exact ⟨Sb',by rw [Go.Maps.atKey_put_other e];exact h1,fun n hn => hcell _ _ _ (h2 n hn)⟩
  ·exact absurd (Option.some.inj (hkl'.symm.trans hkl)) e
open Go.RowKit Go.Flow Go.Shelf
def Marks (base:Nat) (ds:List Deferred) (w:World):Prop:=∃ Ds:List Nat,ds=Ds.map (fun D => { target:=.collected D,args:=#[] })∧Ds.Nodup∧∀ D ∈ Ds,base≤D∧w.heap[D]?=some (.deferred (some []))
theorem Marks.nil (base:Nat) (w:World):Marks base [] w:=⟨[],rfl,List.nodup_nil,fun D h => by simp at h⟩
theorem Marks.kept {base:Nat} {ds:List Deferred} {w w' : World} (h:Marks base ds w) (hk:∀ D:Nat,w.heap[D]?=some (Obj.deferred (some []))→w'.heap[D]?=some (Obj.deferred (some []))):Marks base ds w':=by
 obtain ⟨Ds,e,hn,hD⟩:=h
 exact ⟨Ds,e,hn,fun D hd => ⟨(hD D hd).1,hk D (hD D hd).2⟩⟩
theorem Marks.below {base:Nat} {ds:List Deferred} {w w' : World} (h:Marks base ds w) (hb:Below w.heap.size w w'):Marks base ds w' :=
 h.kept fun D hD => (hb.block D (Array.getElem?_eq_some_iff.1 hD).1).trans hD
theorem Marks.grown {base:Nat} {bm:Nat} {ds:List Deferred} {w w' : World} (h:Marks base ds w) (hg:w.grownBy w' (some bm)) (hm:∀ ds,w.heap[bm]?≠some (Obj.deferred ds)):Marks base ds w' :=
 h.kept fun D hD => (hg.block D (Array.getElem?_eq_some_iff.1 hD).1 (fun e => by cases e;exact hm _ hD)).trans hD
theorem Marks.cons {base:Nat} {ds:List Deferred} {w w' : World} (h:Marks base ds w) (hb:Below w.heap.size w w') {D:Nat} (hD:w.heap.size≤D) (hB:base≤D) (hK:w'.heap[D]?=some (.deferred (some []))):Marks base ({ target:=.collected D,args:=#[] } :: ds) w':=by
 have h':=h.below hb
 obtain ⟨Ds,e,hn,hd⟩:=h
 obtain ⟨Ds',e',hn',hd'⟩:=h'
 refine ⟨D :: Ds,by rw [e];rfl,List.nodup_cons.2 ⟨fun hm => ?_,hn⟩,fun D' hm => ?_⟩
 ·have:=(Array.getElem?_eq_some_iff.1 (hd D hm).2).1
  omega
 ·rcases List.mem_cons.1 hm with rfl | hm
  ·exact ⟨hB,hK⟩
  ·exact ⟨(hd D' hm).1,(hb.block D' (Array.getElem?_eq_some_iff.1 (hd D' hm).2).1).trans (hd D' hm).2⟩
def Turned (base:Nat) (w w' : World):Prop:=Below base w w'∧w.heap.size=w'.heap.size∧(∀ a v,w.cell? a=some v→w'.cell? a=some v)∧∀ (b:Nat) (o:Obj),w.heap[b]?=some o→(∀ ds,o≠.deferred ds)→w'.heap[b]?=some o
theorem zEq {F:Fence} {n:Nat} {P:Program} {fn:Func} {tmps:Array Value} {R:Ending→World→Prop} {base:Nat}:∀ (ds:List Deferred) (w:World),Marks base ds w →
  (∀ w',Turned base w w'→∃ v,(results fn tmps).run P w'=.ok v w'∧R (.returned v) w')→LeavesInM F n P fn tmps R ds .returning w
 | [],w,_,h => h w ⟨Below.refl _ _,rfl,fun _ _ h => h,fun _ _ h _ => h⟩
 | d :: ds,w,hm,h => by
  obtain ⟨Ds,e,hn,hd⟩:=hm
  cases Ds with
  | nil => simp at e
  | cons D Ds =>
   simp only [List.map_cons,List.cons.injEq] at e
   obtain ⟨rfl,rfl⟩:=e
   have hD:=hd D (by simp)
   have hg:=grownBy_putObj' w D (.deferred none)
   refine ⟨by simp,.inl ⟨D,_,rfl,run_takeDeferred hD.2,?_⟩⟩
   have hn2:=List.nodup_cons.1 hn
   refine zEq _ _ ⟨Ds,rfl,hn2.2,fun D' hm => ⟨(hd D' (by simp [hm])).1,?_⟩⟩ fun w' hw' => h w' ⟨?_,?_,?_,?_⟩
   ·refine (hg.block D' (Array.getElem?_eq_some_iff.1 (hd D' (by simp [hm])).2).1 (fun e => ?_)).trans (hd D' (by simp [hm])).2
    cases e;exact hn2.1 hm
   ·exact ((Below.refl base w).grown hg (by have:=(Array.getElem?_eq_some_iff.1 hD.2).1;omega) (fun k e => by cases e;exact hD.1)).trans hw'.1
   ·rw [← hw'.2.1];simp
   ·exact fun a v hc => hw'.2.2.1 a v (cell_kept hc hg (fun r e => by cases e;exact ⟨_,hD.2,rfl⟩))
   ·exact fun b o hb ho => hw'.2.2.2 b o ((hg.block b (Array.getElem?_eq_some_iff.1 hb).1 (fun e => by cases e;rw [hD.2] at hb;cases hb;exact ho _ rfl)).trans hb) ho
theorem zD8 (motive:Act→Prop) {A:Act} (h:A.tmps.size=89) (hm:∀ (ds:List Deferred) (x0 x1 x2 x3 x4 x5 x6 x7 x8 x9 x10 x11 x12 x13 x14 x15 x16 x17 x18 x19 x20 x21 x22 x23 x24 x25 x26 x27 x28 x29 x30 x31 x32 x33 x34 x35 x36 x37 x38 x39 x40 x41 x42 x43 x44 x45 x46 x47 x48 x49 x50 x51 x52 x53 x54 x55 x56 x57 x58 x59 x60 x61 x62 x63 x64 x65 x66 x67 x68 x69 x70 x71 x72 x73 x74 x75 x76 x77 x78 x79 x80 x81 x82 x83 x84 x85 x86 x87 x88:Value),motive ⟨#[x0,x1,x2,x3,x4,x5,x6,x7,x8,x9,x10,x11,x12,x13,x14,x15,x16,x17,x18,x19,x20,x21,x22,x23,x24,x25,x26,x27,x28,x29,x30,x31,x32,x33,x34,x35,x36,x37,x38,x39,x40,x41,x42,x43,x44,x45,x46,x47,x48,x49,x50,x51,x52,x53,x54,x55,x56,x57,x58,x59,x60,x61,x62,x63,x64,x65,x66,x67,x68,x69,x70,x71,x72,x73,x74,x75,x76,x77,x78,x79,x80,x81,x82,x83,x84,x85,x86,x87,x88],ds⟩):motive A:=by
 obtain ⟨⟨l⟩,ds⟩:=A
 replace h:l.length=89:=h
 obtain ⟨x0,l,rfl⟩:=zzK h
 replace h:l.length=88:=by simpa using h
 obtain ⟨x1,l,rfl⟩:=zzK h
 replace h:l.length=87:=by simpa using h
 obtain ⟨x2,l,rfl⟩:=zzK h
 replace h:l.length=86:=by simpa using h
 obtain ⟨x3,l,rfl⟩:=zzK h
 replace h:l.length=85:=by simpa using h
 obtain ⟨x4,l,rfl⟩:=zzK h
 replace h:l.length=84:=by simpa using h
 obtain ⟨x5,l,rfl⟩:=zzK h
 replace h:l.length=83:=by simpa using h
 obtain ⟨x6,l,rfl⟩:=zzK h
 replace h:l.length=82:=by simpa using h
 obtain ⟨x7,l,rfl⟩:=zzK h
 replace h:l.length=81:=by simpa using h
 obtain ⟨x8,l,rfl⟩:=zzK h
 replace h:l.length=80:=by simpa using h
 obtain ⟨x9,l,rfl⟩:=zzK h
 replace h:l.length=79:=by simpa using h
 obtain ⟨x10,l,rfl⟩:=zzK h
 replace h:l.length=78:=by simpa using h
 obtain ⟨x11,l,rfl⟩:=zzK h
 replace h:l.length=77:=by simpa using h
 obtain ⟨x12,l,rfl⟩:=zzK h
 replace h:l.length=76:=by simpa using h
 obtain ⟨x13,l,rfl⟩:=zzK h
 replace h:l.length=75:=by simpa using h
 obtain ⟨x14,l,rfl⟩:=zzK h
 replace h:l.length=74:=by simpa using h
 obtain ⟨x15,l,rfl⟩:=zzK h
 replace h:l.length=73:=by simpa using h
 obtain ⟨x16,l,rfl⟩:=zzK h
 replace h:l.length=72:=by simpa using h
 obtain ⟨x17,l,rfl⟩:=zzK h
 replace h:l.length=71:=by simpa using h
 obtain ⟨x18,l,rfl⟩:=zzK h
 replace h:l.length=70:=by simpa using h
 obtain ⟨x19,l,rfl⟩:=zzK h
 replace h:l.length=69:=by simpa using h
 obtain ⟨x20,l,rfl⟩:=zzK h
 replace h:l.length=68:=by simpa using h
 obtain ⟨x21,l,rfl⟩:=zzK h
 replace h:l.length=67:=by simpa using h
 obtain ⟨x22,l,rfl⟩:=zzK h
 replace h:l.length=66:=by simpa using h
 obtain ⟨x23,l,rfl⟩:=zzK h
 replace h:l.length=65:=by simpa using h
 obtain ⟨x24,l,rfl⟩:=zzK h
 replace h:l.length=64:=by simpa using h
 obtain ⟨x25,l,rfl⟩:=zzK h
 replace h:l.length=63:=by simpa using h
 obtain ⟨x26,l,rfl⟩:=zzK h
 replace h:l.length=62:=by simpa using h
 obtain ⟨x27,l,rfl⟩:=zzK h
 replace h:l.length=61:=by simpa using h
 obtain ⟨x28,l,rfl⟩:=zzK h
 replace h:l.length=60:=by simpa using h
 obtain ⟨x29,l,rfl⟩:=zzK h
 replace h:l.length=59:=by simpa using h
 obtain ⟨x30,l,rfl⟩:=zzK h
 replace h:l.length=58:=by simpa using h
 obtain ⟨x31,l,rfl⟩:=zzK h
 replace h:l.length=57:=by simpa using h
 obtain ⟨x32,l,rfl⟩:=zzK h
 replace h:l.length=56:=by simpa using h
 obtain ⟨x33,l,rfl⟩:=zzK h
 replace h:l.length=55:=by simpa using h
 obtain ⟨x34,l,rfl⟩:=zzK h
 replace h:l.length=54:=by simpa using h
 obtain ⟨x35,l,rfl⟩:=zzK h
 replace h:l.length=53:=by simpa using h
 obtain ⟨x36,l,rfl⟩:=zzK h
 replace h:l.length=52:=by simpa using h
 obtain ⟨x37,l,rfl⟩:=zzK h
 replace h:l.length=51:=by simpa using h
 obtain ⟨x38,l,rfl⟩:=zzK h
 replace h:l.length=50:=by simpa using h
 obtain ⟨x39,l,rfl⟩:=zzK h
 replace h:l.length=49:=by simpa using h
 obtain ⟨x40,l,rfl⟩:=zzK h
 replace h:l.length=48:=by simpa using h
 obtain ⟨x41,l,rfl⟩:=zzK h
 replace h:l.length=47:=by simpa using h
 obtain ⟨x42,l,rfl⟩:=zzK h
 replace h:l.length=46:=by simpa using h
 obtain ⟨x43,l,rfl⟩:=zzK h
 replace h:l.length=45:=by simpa using h
 obtain ⟨x44,l,rfl⟩:=zzK h
 replace h:l.length=44:=by simpa using h
 obtain ⟨x45,l,rfl⟩:=zzK h
 replace h:l.length=43:=by simpa using h
 obtain ⟨x46,l,rfl⟩:=zzK h
 replace h:l.length=42:=by simpa using h
 obtain ⟨x47,l,rfl⟩:=zzK h
 replace h:l.length=41:=by simpa using h
 obtain ⟨x48,l,rfl⟩:=zzK h
 replace h:l.length=40:=by simpa using h
 obtain ⟨x49,l,rfl⟩:=zzK h
 replace h:l.length=39:=by simpa using h
 obtain ⟨x50,l,rfl⟩:=zzK h
 replace h:l.length=38:=by simpa using h
 obtain ⟨x51,l,rfl⟩:=zzK h
 replace h:l.length=37:=by simpa using h
 obtain ⟨x52,l,rfl⟩:=zzK h
 replace h:l.length=36:=by simpa using h
 obtain ⟨x53,l,rfl⟩:=zzK h
 replace h:l.length=35:=by simpa using h
 obtain ⟨x54,l,rfl⟩:=zzK h
 replace h:l.length=34:=by simpa using h
 obtain ⟨x55,l,rfl⟩:=zzK h
 replace h:l.length=33:=by simpa using h
 obtain ⟨x56,l,rfl⟩:=zzK h
 replace h:l.length=32:=by simpa using h
 obtain ⟨x57,l,rfl⟩:=zzK h
 replace h:l.length=31:=by simpa using h
 obtain ⟨x58,l,rfl⟩:=zzK h
 replace h:l.length=30:=by simpa using h
 obtain ⟨x59,l,rfl⟩:=zzK h
 replace h:l.length=29:=by simpa using h
 obtain ⟨x60,l,rfl⟩:=zzK h
 replace h:l.length=28:=by simpa using h
 obtain ⟨x61,l,rfl⟩:=zzK h
 replace h:l.length=27:=by simpa using h
 obtain ⟨x62,l,rfl⟩:=zzK h
 replace h:l.length=26:=by simpa using h
 obtain ⟨x63,l,rfl⟩:=zzK h
 replace h:l.length=25:=by simpa using h
 obtain ⟨x64,l,rfl⟩:=zzK h
 replace h:l.length=24:=by simpa using h
 obtain ⟨x65,l,rfl⟩:=zzK h
 replace h:l.length=23:=by simpa using h
 obtain ⟨x66,l,rfl⟩:=zzK h
 replace h:l.length=22:=by simpa using h
 obtain ⟨x67,l,rfl⟩:=zzK h
 replace h:l.length=21:=by simpa using h
 obtain ⟨x68,l,rfl⟩:=zzK h
 replace h:l.length=20:=by simpa using h
 obtain ⟨x69,l,rfl⟩:=zzK h
 replace h:l.length=19:=by simpa using h
 obtain ⟨x70,l,rfl⟩:=zzK h
 replace h:l.length=18:=by simpa using h
 obtain ⟨x71,l,rfl⟩:=zzK h
 replace h:l.length=17:=by simpa using h
 obtain ⟨x72,l,rfl⟩:=zzK h
 replace h:l.length=16:=by simpa using h
 obtain ⟨x73,l,rfl⟩:=zzK h
 replace h:l.length=15:=by simpa using h
 obtain ⟨x74,l,rfl⟩:=zzK h
 replace h:l.length=14:=by simpa using h
 obtain ⟨x75,l,rfl⟩:=zzK h
 replace h:l.length=13:=by simpa using h
 obtain ⟨x76,l,rfl⟩:=zzK h
 replace h:l.length=12:=by simpa using h
 obtain ⟨x77,l,rfl⟩:=zzK h
 replace h:l.length=11:=by simpa using h
 obtain ⟨x78,l,rfl⟩:=zzK h
 replace h:l.length=10:=by simpa using h
 obtain ⟨x79,l,rfl⟩:=zzK h
 replace h:l.length=9:=by simpa using h
 obtain ⟨x80,l,rfl⟩:=zzK h
 replace h:l.length=8:=by simpa using h
 obtain ⟨x81,l,rfl⟩:=zzK h
 replace h:l.length=7:=by simpa using h
 obtain ⟨x82,l,rfl⟩:=zzK h
 replace h:l.length=6:=by simpa using h
 obtain ⟨x83,l,rfl⟩:=zzK h
 replace h:l.length=5:=by simpa using h
 obtain ⟨x84,l,rfl⟩:=zzK h
 replace h:l.length=4:=by simpa using h
 obtain ⟨x85,l,rfl⟩:=zzK h
 replace h:l.length=3:=by simpa using h
 obtain ⟨x86,l,rfl⟩:=zzK h
 replace h:l.length=2:=by simpa using h
 obtain ⟨x87,l,rfl⟩:=zzK h
 replace h:l.length=1:=by simpa using h
 obtain ⟨x88,l,rfl⟩:=zzK h
 replace h:l.length=0:=by simpa using h
 obtain rfl:=List.eq_nil_of_length_eq_zero h
 exact hm ds x0 x1 x2 x3 x4 x5 x6 x7 x8 x9 x10 x11 x12 x13 x14 x15 x16 x17 x18 x19 x20 x21 x22 x23 x24 x25 x26 x27 x28 x29 x30 x31 x32 x33 x34 x35 x36 x37 x38 x39 x40 x41 x42 x43 x44 x45 x46 x47 x48 x49 x50 x51 x52 x53 x54 x55 x56 x57 x58 x59 x60 x61 x62 x63 x64 x65 x66 x67 x68 x69 x70 x71 x72 x73 x74 x75 x76 x77 x78 x79 x80 x81 x82 x83 x84 x85 x86 x87 x88
theorem Turned.cells {base:Nat} {w w' : World} (h:Turned base w w') {B:Nat} {cs:Array Value} {T:TypeId} (hc:Cells w B cs T):Cells w' B cs T:=h.2.2.2 B _ hc (fun _ e => by cases e)
theorem zAd.turned {base:Nat} {w w' : World} {bm n:Nat} {F:Nat→Nat→Hrs} {dom:Nat→Nat→Prop} (h:zAd w bm n F dom) (ht:Turned base w w'):zAd w' bm n F dom:=by
 obtain ⟨D,⟨es,clock,hb,Ft,hs,hD⟩,hG⟩:=h
 refine ⟨D,⟨es,clock,ht.2.2.2 bm _ hb (fun _ e => by cases e),Ft,hs,hD⟩,fun i k hd kl hkl => ?_⟩
 obtain ⟨Sb,h1,h2⟩:=hG i k hd kl hkl
 exact ⟨Sb,h1,fun n hn => ht.2.2.1 _ _ (h2 n hn)⟩
def zCA (f:Hrs):Array Value:=((List.range 101).map fun n => Value.bool (f n)).toArray
theorem zEZ (f:Hrs) (n:Nat) (h:n < 101):(zCA f)[n]?=some (.bool (f n)):=by
 unfold zCA
 rw [zzH,List.getElem?_map,List.getElem?_range h];rfl
theorem zGW (f:Hrs) (m:Nat):(zCA f).setIfInBounds m (.bool true)=zCA (fun n => f n || n == m):=by
 unfold zCA
 rw [zzG]
 congr 1
 apply List.ext_getElem
 ·simp
 ·intro i h1 h2
  simp only [List.getElem_set,List.getElem_map,List.getElem_range]
  by_cases e:m=i
  ·simp [e]
  ·rw [if_neg e];simp [Ne.symm e]
theorem _root_.Go.Proofs.YticjeianiahppaaGreatDoor.Cells.setC {w:World} {B:Nat} {f:Hrs} {T:TypeId} (h:Cells w B (zCA f) T):SetC w B f:=fun n hn => by rw [h.cell,zEZ f n hn]
def noHr:Hrs:=fun _ => false
attribute [local go_sem] Oper.semAt_some
def Sl:Act→List (Nat × Value)→Prop
 | a,[] => a.tmps.size=89
 | a,(i,v) :: S => a.tmps.getD i undef=v∧Sl a S
theorem Sl.size:∀ {a:Act} {S:List (Nat × Value)},Sl a S→a.tmps.size=89
 | _,[],h => h
 | _,_ :: _,h => Sl.size h.2
def hrF (p:Post) (i k:Nat):Hrs:=zE1 (((p.routes[k]?).map (·.legs)).getD []) (p.sends.getD i 0)
def domF (R i k:Nat) (i' k' : Nat):Prop:=(i' < i∧k' < R)∨(i'=i∧k' < k)
theorem zAd.noDefer {w:World} {bm n:Nat} {F:Nat→Nat→Hrs} {dom:Nat→Nat→Prop} (h:zAd w bm n F dom):∀ ds,w.heap[bm]?≠some (Obj.deferred ds):=by
 obtain ⟨D,⟨es,clock,hb,_⟩,_⟩:=h
 intro ds e
 rw [hb] at e
 cases e
structure WorkI (p:Post) (a:Option Addr) (c:Nat) (ar:Option Addr) (cr:Nat) (w:World) (i k:Nat) (W:World):Prop where
 b:Below w.heap.size w W
 cp:Cells W w.heap.size #[.slice a p.sends.length c,.slice ar p.routes.length cr,.int .i64 p.pat] 51
 cw:Cells W (w.heap.size + 2) #[.slice a p.sends.length c,.slice ar p.routes.length cr,.int .i64 p.pat,.map (some (w.heap.size + 1))] 177
 h:∃ n,n≤3 * i + k∧zAd W (w.heap.size + 1) n (hrF p) (domF p.routes.length i k)
theorem WorkI.below {p:Post} {a:Option Addr} {c:Nat} {ar:Option Addr} {cr:Nat} {w:World} {i k:Nat} {W W' : World} (h:WorkI p a c ar cr w i k W) (hb:Below W.heap.size W W'):WorkI p a c ar cr w i k W' :=
 ⟨h.b.trans (hb.mono h.b.size),h.cp.below hb,h.cw.below hb,let ⟨n,hn,hh⟩:=h.h;⟨n,hn,hh.below hb⟩⟩
def SO (a:Option Addr) (c n:Nat) (w:World) (i:Nat):List (Nat × Value):=[(1,.pointer (some ⟨w.heap.size,0,none⟩)),(3,.pointer (some ⟨w.heap.size + 2,0,none⟩)),(19,.slice a n c),(20,.int .i64 n),(21,.int .i64 i)]
def zQZ (p:Post) (a:Option Addr) (c:Nat) (ar:Option Addr) (cr:Nat) (w:World) (g:Nat) (A:Act) (W:World):Prop :=
 ∃ i,g + i=p.sends.length∧Sl A (SO a c p.sends.length w i)∧Marks w.heap.size A.defers W∧WorkI p a c ar cr w i 0 W
def SR (a:Option Addr) (c n:Nat) (ar:Option Addr) (cr R:Nat) (w:World) (i:Nat) (s:Int) (k:Nat):List (Nat × Value):=SO a c n w i ++ [(4,.int .i64 i),(5,.int .i64 s),(27,.slice ar R cr),(28,.int .i64 R),(29,.int .i64 k)]
def zPn (p:Post) (a:Option Addr) (c:Nat) (ar:Option Addr) (cr:Nat) (w:World) (i:Nat) (s:Int) (g:Nat) (A:Act) (W:World):Prop :=
 ∃ k,g + k=p.routes.length∧Sl A (SR a c p.sends.length ar cr p.routes.length w i s k)∧Marks w.heap.size A.defers W∧WorkI p a c ar cr w i k W
def SL (a:Option Addr) (c n:Nat) (ar:Option Addr) (cr R:Nat) (w:World) (i:Nat) (s:Int) (k:Nat) (al:Option Addr) (ca L:Nat) (S j:Nat):List (Nat × Value) :=
 SR a c n ar cr R w i s k ++ [(6,.int .i64 k),(8,.pointer (some ⟨S,0,none⟩)),(41,.slice al L ca),(42,.int .i64 L),(43,.int .i64 j)]
def zCz (ls:List Leg) (s:Int) (j:Nat):Hrs:=(ls.take j).foldl (fun S l => zEN l S) (zEy s)
def zQ9 (p:Post) (a:Option Addr) (c:Nat) (ar:Option Addr) (cr:Nat) (w:World) (i:Nat) (s:Int) (k:Nat) (al:Option Addr) (ca:Nat) (ls:List Leg) (g:Nat) (A:Act) (W:World):Prop :=
 ∃ j S,g + j=ls.length∧Sl A (SL a c p.sends.length ar cr p.routes.length w i s k al ca ls.length S j)∧Marks w.heap.size A.defers W∧WorkI p a c ar cr w i k W∧zBu W al ls∧Cells W S (zCA (zCz ls s j)) 262∧w.heap.size≤S
def zJS (l:Leg) (pre:List Nat):Hrs:=fun m => pre.any fun h => (List.range (l.hi - l.lo + 1).toNat).any fun n => decide (awk l (h + l.lo + n)=m)
def accN (l:Leg) (pre:List Nat) (h q:Nat):Hrs:=fun m => zJS l pre m || (List.range q).any fun n => decide (awk l (h + l.lo + n)=m)
theorem zNW (l:Leg) (pre:List Nat) (h:Nat):accN l pre h 0=zJS l pre:=by funext m;simp [accN]
theorem zOd (l:Leg) (pre:List Nat) (h:Nat):accN l pre h (l.hi - l.lo + 1).toNat=zJS l (pre ++ [h]):=by funext m;simp [accN,zJS]
theorem zNX (l:Leg) (pre:List Nat) (h q v:Nat) (hv:awk l (h + l.lo + q)=v):accN l pre h (q + 1)=fun m => accN l pre h q m || m == v:=by
 funext m
 unfold accN
 rw [List.range_succ,List.any_append,← Bool.or_assoc]
 congr 1
 simp only [List.any_cons,List.any_nil,Bool.or_false]
 rw [hv,Bool.eq_iff_iff]
 simp only [decide_eq_true_eq,beq_iff_eq]
 omega
theorem zLN (l:Leg) (f:Hrs):zJS l ((hvs f 101 (Nat.le_refl _)).map (·.1))=zEN l f:=by
 funext m
 rw [zIx]
 unfold zJS zEN
 rw [List.any_filter]
structure Same6 (N bm:Nat) (A B:World):Prop where
 b:Below bm A B
 s:∀ q,q < N→q≠bm→B.heap[q]?=A.heap[q]?
theorem Same6.cells {N bm:Nat} {A B:World} (h:Same6 N bm A B) {q:Nat} {cs:Array Value} {T:TypeId} (hc:Cells A q cs T) (hq:q < N) (hn:q≠bm):Cells B q cs T:=(h.s q hq hn).trans hc
theorem _root_.Go.Proofs.YticjeianiahppaaGreatDoor.KeepsOthers.of_below {W W' : World} (h:Below W.heap.size W W'):KeepsOthers W W' :=
 ⟨h.size,fun k o hk _ => (h.block k (Array.getElem?_eq_some_iff.1 hk).1).trans hk⟩
theorem zOT (Sb:Nat) (w:World):Calls Tryz.prog 153 #[.pointer (some ⟨Sb,0,none⟩)] w fun e w' => e=.returned (.func (.func 206) #[] #[.pointer (some ⟨w.heap.size,0,none⟩)])∧w.alloc (.cells #[.pointer (some ⟨Sb,0,none⟩)] 260)=w':=by
 go_enter Tryz.func153,Tryz.ntmps153
 go_wp2
 go_ret
 exact ⟨rfl,rfl⟩
theorem zPU {ls:List Leg} (h:ls.all zDC=true) (h3:ls.length≤3) {s:Int} (hs:0≤s∧s≤30) (j:Nat):zH1 (zCz ls s j) 48:=by
 have h1:(ls.take j).all zDC=true:=List.all_eq_true.2 fun l hl => List.all_eq_true.1 h l (List.mem_of_mem_take hl)
 have h2:(ls.take j).length≤3:=by rw [List.length_take];omega
 have:=(zE0 (ls.take j) (zEy s) 30 h1 (fun n hn => by simp [zEy] at hn;omega) (by omega) (by omega) ⟨s.toNat,by simp [zEy];omega⟩).1
 intro n hn
 have:=this n hn
 omega
def zBt (p:Post) (a:Option Addr) (c:Nat) (ar:Option Addr) (cr:Nat) (Bw:Nat) (W:World):Prop :=
 ∃ Bm n,Cells W Bw #[.slice a p.sends.length c,.slice ar p.routes.length cr,.int .i64 p.pat,.map (some Bm)] 177∧zAd W Bm n (hrF p) (fun i k => i < p.sends.length∧k < p.routes.length)
def zPm (p:Post) (a:Option Addr) (c:Nat) (ar:Option Addr) (cr:Nat) (w:World) (e:Ending) (w' : World):Prop :=
 ∃ Bw,e=.returned (.pointer (some ⟨Bw,0,none⟩))∧w.heap.size≤Bw∧zBt p a c ar cr Bw w'∧Below w.heap.size w w'
theorem zFE (a:Option Addr) (c:Nat) (ar:Option Addr) (cr:Nat) (p:Post) (w:World) (hs:IntsAt w a p.sends) (hr:zAb w ar p.routes) (h0:zA4 p=0) :
  Calls Tryz.prog 86 #[.agg #[.slice a p.sends.length c,.slice ar p.routes.length cr,.int .i64 p.pat]] w (zPm p a c ar cr w):=by
 obtain ⟨n4,r3,few,_,_,_,_,_,rok⟩:=zAi h0
 have hours:=zBg h0
 have legs:=zHo h0
 clear h0
 have Few:=Lib.hid few
 have Rok:=Lib.hid rok
 clear few rok
 have mk:∀ W,Sem.run Tryz.prog (Instr.makeMap 175 none) W=.ok (.map (some W.heap.size)) (W.alloc (.map #[] 0)):=fun W => by kernel_rfl
 have b0:Below w.heap.size w (w.alloc (.cells #[.slice a p.sends.length c,.slice ar p.routes.length cr,.int .i64 p.pat] 51)):=(Below.refl _ _).alloc (Nat.le_refl _) _
 have W0:WorkI p a c ar cr w 0 0 (((w.alloc (.cells #[.slice a p.sends.length c,.slice ar p.routes.length cr,.int .i64 p.pat] 51)).alloc (.map #[] 0)).alloc (.cells #[.slice a p.sends.length c,.slice ar p.routes.length cr,.int .i64 p.pat,.map (some (w.heap.size + 1))] 177)):=by
  refine ⟨(b0.alloc b0.size _).alloc (by simp;omega) _,((Cells.new _ _ _).alloc _).alloc _,Cells.new' _ _ _ _ (by simp),0,Nat.zero_le _,?_⟩
  have:=zAd.made (w.alloc (.cells #[.slice a p.sends.length c,.slice ar p.routes.length cr,.int .i64 p.pat] 51)) (hrF p)
  rw [show (w.alloc (.cells #[.slice a p.sends.length c,.slice ar p.routes.length cr,.int .i64 p.pat] 51)).heap.size=w.heap.size + 1 by simp] at this
  exact (this.sub (fun i k h => by unfold domF at h;omega)).below ((Below.refl _ _).alloc (Nat.le_refl _) _)
 refine (callsIn_wide (n:=5)).1 ?_
 refine callsIn_of_wp_marks Tryz.func86 rfl trivial ?_ rfl
 simp only [Tryz.ntmps86,List.size_toArray,List.length_cons,List.length_nil,Nat.reduceAdd,Nat.reduceSub,Array.replicate_succ,Array.replicate_zero,List.push_toArray,List.append_toArray,List.nil_append,List.cons_append]
 refine wpIn_wide.2 ?_
 go_wp2
 refine wp_loop_ghost_k (zQZ p a c ar cr w) p.sends.length ?_ ?_
 ·exact ⟨0,rfl,⟨rfl,rfl,rfl,rfl,rfl,rfl⟩,Marks.nil _ _,W0⟩
 clear W0 b0 mk
 rintro g A W ⟨i,hgi,hS,hM,hW⟩ J K hJ hK
 have hsz:=hS.size
 revert hS hM
 refine zD8 (fun A => Sl A (SO a c p.sends.length w i)→Marks w.heap.size A.defers W→Code.wp _ _ _ A W) hsz ?_
 clear hsz
 intro ds x0 x1 x2 x3 x4 x5 x6 x7 x8 x9 x10 x11 x12 x13 x14 x15 x16 x17 x18 x19 x20 x21 x22 x23 x24 x25 x26 x27 x28 x29 x30 x31 x32 x33 x34 x35 x36 x37 x38 x39 x40 x41 x42 x43 x44 x45 x46 x47 x48 x49 x50 x51 x52 x53 x54 x55 x56 x57 x58 x59 x60 x61 x62 x63 x64 x65 x66 x67 x68 x69 x70 x71 x72 x73 x74 x75 x76 x77 x78 x79 x80 x81 x82 x83 x84 x85 x86 x87 x88 hS hM
 simp only [SL,SR,SO,List.cons_append,List.nil_append,Sl,Array.getD_eq_getD_getElem?,zzH,zzJ,zzI,Option.getD_some] at hS
 obtain ⟨rfl,rfl,rfl,rfl,rfl,-⟩:=hS
 have q1:=hW.cp.cell 1
 have lP:=hW.cp.lt
 simp at q1
 by_cases hi:i < p.sends.length
 ·obtain ⟨bs,offs,rfl,hbs,s0⟩:=(hs.below hW.b) i hi
  have sb:=hours.s _ (List.getElem_mem hi)
  have s0' : W.cell? ⟨bs,offs + i,none⟩=some (.int .i64 p.sends[i]):=s0.trans (by simp [hi])
  have Hsg:Hid (p.sends.getD i 0=p.sends[i]):=Lib.hid (by simp [hi])
  clear s0
  obtain ⟨s,hse⟩:∃ s:Nat,p.sends[i]=(s:Int):=⟨p.sends[i].toNat,by omega⟩
  rw [hse] at s0' sb Hsg
  clear hse
  go_wp2
  refine wp_loop_ghost_k (zPn p (some ⟨bs,offs,none⟩) c ar cr w i s) p.routes.length ?_ ?_
  ·exact ⟨0,rfl,⟨rfl,rfl,rfl,rfl,rfl,rfl,rfl,rfl,rfl,rfl,rfl⟩,hM,hW⟩
  clear s0' q1 hM hW lP hbs
  clear W ds
  rintro g2 A W ⟨k,hgk,hS,hM,hW⟩ J2 K2 hJ2 hK2
  have hsz:=hS.size
  revert hS hM
  refine zD8 (fun A => Sl A (SR (some ⟨bs,offs,none⟩) c p.sends.length ar cr p.routes.length w i s k)→Marks w.heap.size A.defers W→Code.wp _ _ _ A W) hsz ?_
  clear hsz
  intro ds x0 x1 x2 x3 x4 x5 x6 x7 x8 x9 x10 x11 x12 x13 x14 x15 x16 x17 x18 x19 x20 x21 x22 x23 x24 x25 x26 x27 x28 x29 x30 x31 x32 x33 x34 x35 x36 x37 x38 x39 x40 x41 x42 x43 x44 x45 x46 x47 x48 x49 x50 x51 x52 x53 x54 x55 x56 x57 x58 x59 x60 x61 x62 x63 x64 x65 x66 x67 x68 x69 x70 x71 x72 x73 x74 x75 x76 x77 x78 x79 x80 x81 x82 x83 x84 x85 x86 x87 x88 hS hM
  simp only [SL,SR,SO,List.cons_append,List.nil_append,Sl,Array.getD_eq_getD_getElem?,zzH,zzJ,zzI,Option.getD_some] at hS
  obtain ⟨rfl,rfl,rfl,rfl,rfl,rfl,rfl,rfl,rfl,rfl,-⟩:=hS
  by_cases hk:k < p.routes.length
  ·obtain ⟨b4,off4,al,ca,rfl,hbl4,e0,e1,eL⟩:=(hr.below hW.b) k hk
   have lo:=legs p.routes[k] (List.getElem_mem hk)
   have f1:=List.all_eq_true.1 Few.out _ (List.getElem_mem hk)
   have f2:=List.all_eq_true.1 Rok.out _ (List.getElem_mem hk)
   have Hrk:Hid (p.routes[k]?=some p.routes[k]):=Lib.hid (List.getElem?_eq_getElem hk)
   obtain ⟨r,hrr⟩:∃ x,p.routes[k]=x:=⟨_,rfl⟩
   rw [hrr] at e0 e1 eL lo f1 f2 Hrk
   have Hf1:=Lib.hid f1
   have Hf2:=Lib.hid f2
   have Hlo:=Lib.hid lo
   have ll3:=lo.1
   clear hrr f1 f2 lo
   have hkI:(k:Int) < (p.routes.length:Int):=by omega
   have zs:Tryz.zeroCells262=zCA noHr:=by kernel_rfl
   have g0:(Tryz.zeroCells262)[s]?=some (.bool false):=by rw [zs];exact zEZ noHr s (by omega)
   have Hzs:=Lib.hid zs
   clear zs
   have hsI:(s:Int) < 101:=by omega
   have Hz2:Hid ((Tryz.zeroCells262).setIfInBounds s (.bool true)=zCA (zCz r.legs s 0)):=Lib.hid (by
    rw [Hzs.out,zGW]
    congr 1
    funext n
    simp only [zCz,zzB,List.foldl_nil,noHr,Bool.false_or,zEy]
    rw [Bool.eq_iff_iff]
    simp only [beq_iff_eq,decide_eq_true_eq]
    omega)
   go_wp2
   rw [Hz2.out]
   obtain ⟨W5,hW5⟩:∃ z:World,z=((W.alloc (.cells #[.slice al r.legs.length ca,.bool r.lossy] 150)).alloc (.cells (zCA (zCz r.legs s 0)) 262)):=⟨_,rfl⟩
   have b5:Below W.heap.size W W5:=by rw [hW5];exact ((Below.refl _ _).alloc (Nat.le_refl _) _).alloc (by simp) _
   have c5:Cells W5 (W.heap.size + 1) (zCA (zCz r.legs s 0)) 262:=by rw [hW5];exact Cells.new' _ _ _ _ (by simp)
   have z5:=hW.b.size
   rw [← hW5]
   clear hW5
   refine wp_loop_ghost_k (zQ9 p (some ⟨bs,offs,none⟩) c (some ⟨b4,off4,none⟩) cr w i s k al ca r.legs) r.legs.length ?_ ?_
   ·exact ⟨0,W.heap.size + 1,rfl,⟨rfl,rfl,rfl,rfl,rfl,rfl,rfl,rfl,rfl,rfl,rfl,rfl,rfl,rfl,rfl,rfl⟩,hM.below b5,hW.below b5,eL.below b5,c5,by omega⟩
   clear c5 b5 z5 W5 hM hW e0 e1 eL Hz2 g0 Hzs hbl4
   clear W ds
   rintro g3 A W ⟨j,S,hgj,hS,hM,hW,eL,cS,hSw⟩ J3 K3 hJ3 hK3
   have hsz:=hS.size
   revert hS hM
   refine zD8 (fun A => Sl A (SL (some ⟨bs,offs,none⟩) c p.sends.length (some ⟨b4,off4,none⟩) cr p.routes.length w i s k al ca r.legs.length S j)→Marks w.heap.size A.defers W→Code.wp _ _ _ A W) hsz ?_
   clear hsz
   intro ds x0 x1 x2 x3 x4 x5 x6 x7 x8 x9 x10 x11 x12 x13 x14 x15 x16 x17 x18 x19 x20 x21 x22 x23 x24 x25 x26 x27 x28 x29 x30 x31 x32 x33 x34 x35 x36 x37 x38 x39 x40 x41 x42 x43 x44 x45 x46 x47 x48 x49 x50 x51 x52 x53 x54 x55 x56 x57 x58 x59 x60 x61 x62 x63 x64 x65 x66 x67 x68 x69 x70 x71 x72 x73 x74 x75 x76 x77 x78 x79 x80 x81 x82 x83 x84 x85 x86 x87 x88 hS hM
   simp only [SL,SR,SO,List.cons_append,List.nil_append,Sl,Array.getD_eq_getD_getElem?,zzH,zzJ,zzI,Option.getD_some] at hS
   obtain ⟨rfl,rfl,rfl,rfl,rfl,rfl,rfl,rfl,rfl,rfl,rfl,rfl,rfl,rfl,rfl,-⟩:=hS
   by_cases hj:j < r.legs.length
   ·obtain ⟨b6,off6,ar6,c6,rfl,hbl6,k0,k1,k2,hR6⟩:=eL j hj
    have ltk:zCz r.legs s (j + 1)=zEN r.legs[j] (zCz r.legs s j):=by
     unfold zCz
     rw [List.take_succ_eq_append_getElem hj,List.foldl_append];rfl
    have hro:=Hf2.out
    simp only [zBv,Bool.and_eq_true] at hro
    have lok:=List.all_eq_true.1 hro.2 _ (List.getElem_mem hj)
    have las:=Hlo.out.2.2 _ (List.getElem_mem hj)
    have Hle:=Lib.hid (zPU hro.2 ll3 (s:=s) (by omega) j)
    obtain ⟨l,hl⟩:∃ l,r.legs[j]=l:=⟨_,rfl⟩
    rw [hl] at k0 k1 k2 hR6 ltk lok las
    have Hlt:=Lib.hid ltk
    have Hlok:=Lib.hid lok
    clear ltk hro lok hl
    obtain ⟨f,hf⟩:∃ f,zCz r.legs s j=f:=⟨_,rfl⟩
    rw [hf] at cS Hlt Hle
    clear hf
    have lS:=cS.lt
    have hjI:(j:Int) < (r.legs.length:Int):=by omega
    have zs:Tryz.zeroCells262=zCA noHr:=by kernel_rfl
    have Hzs:=Lib.hid zs
    clear zs
    go_wp2_with (go_at_call 153;(with_reducible refine (zOT S _).mono ?_);rintro e w1 ⟨rfl,rfl⟩)
    rw [Hzs.out]
    obtain ⟨W6,hW6⟩:∃ z:World,z=((((W.alloc (.cells #[.int .i64 l.lo,.int .i64 l.hi,.slice ar6 l.asl.length c6] 147)).alloc (.cells (zCA noHr) 262)).alloc (.cells #[.pointer (some ⟨W.heap.size + 1,0,none⟩)] 260)).alloc (.cells #[.pointer (some ⟨S,0,none⟩)] 260)):=⟨_,rfl⟩
    have bw6:Below W.heap.size W W6:=by rw [hW6];exact ((((Below.refl _ _).alloc (Nat.le_refl _) _).alloc (by simp) _).alloc (by simp;omega) _).alloc (by simp;omega) _
    have z6:W6.heap.size=W.heap.size + 4:=by rw [hW6];simp
    have cL6:Cells W6 W.heap.size #[.int .i64 l.lo,.int .i64 l.hi,.slice ar6 l.asl.length c6] 147:=by rw [hW6];exact (((Cells.new _ _ _).alloc _).alloc _).alloc _
    have cN6:Cells W6 (W.heap.size + 1) (zCA noHr) 262:=by rw [hW6];exact ((Cells.new' _ _ _ _ (by simp)).alloc _).alloc _
    have cB6:Cells W6 (W.heap.size + 1 + 1) #[.pointer (some ⟨W.heap.size + 1,0,none⟩)] 260:=by rw [hW6];exact (Cells.new' _ _ _ _ (by simp)).alloc _
    have cP6:Cells W6 (W.heap.size + 1 + 1 + 1) #[.pointer (some ⟨S,0,none⟩)] 260:=by rw [hW6];exact Cells.new' _ _ _ _ (by simp)
    rw [← hW6]
    clear hW6
    refine zD8 (fun A => A.defers=ds→Sl A (SL (some ⟨bs,offs,none⟩) c p.sends.length (some ⟨b4,off4,none⟩) cr p.routes.length w i s k (some ⟨b6,off6,none⟩) ca r.legs.length S j ++ [(10,.pointer (some ⟨W.heap.size,0,none⟩)),(11,.pointer (some ⟨W.heap.size + 1 + 1,0,none⟩)),(50,.func (.func 206) #[] #[.pointer (some ⟨W.heap.size + 1 + 1 + 1,0,none⟩)])])→Code.wp _ _ _ A W6) rfl ?_ rfl (by simp only [SL,SR,SO,List.cons_append,List.nil_append];exact ⟨rfl,rfl,rfl,rfl,rfl,rfl,rfl,rfl,rfl,rfl,rfl,rfl,rfl,rfl,rfl,rfl,rfl,rfl,rfl⟩)
    intro ds' x0 x1 x2 x3 x4 x5 x6 x7 x8 x9 x10 x11 x12 x13 x14 x15 x16 x17 x18 x19 x20 x21 x22 x23 x24 x25 x26 x27 x28 x29 x30 x31 x32 x33 x34 x35 x36 x37 x38 x39 x40 x41 x42 x43 x44 x45 x46 x47 x48 x49 x50 x51 x52 x53 x54 x55 x56 x57 x58 x59 x60 x61 x62 x63 x64 x65 x66 x67 x68 x69 x70 x71 x72 x73 x74 x75 x76 x77 x78 x79 x80 x81 x82 x83 x84 x85 x86 x87 x88 hds hS2
    replace hds:ds'=ds:=hds
    subst hds
    simp only [SL,SR,SO,List.cons_append,List.nil_append,Sl,Array.getD_eq_getD_getElem?,zzH,zzJ,zzI,Option.getD_some] at hS2
    obtain ⟨rfl,rfl,rfl,rfl,rfl,rfl,rfl,rfl,rfl,rfl,rfl,rfl,rfl,rfl,rfl,rfl,rfl,rfl,-⟩:=hS2
    have lP:=Nat.lt_of_lt_of_le hW.cp.lt bw6.size
    have sL6:=(cS.below bw6).setC
    have hNS:S≠W.heap.size + 1:=by omega
    refine (wpIn_wide (n:=5)).1 ?_
    refine wpIn_rangeFunc_ownG rfl (by omega) (gf:=206) (lb:=#[.pointer (some ⟨W.heap.size + 1 + 1 + 1,0,none⟩)]) rfl trivial (enters_of Tryz.func206 (by kernel_rfl) rfl)
     (zGe 4 (by omega) W6.heap.size (W.heap.size + 1) (W.heap.size + 1 + 1 + 1) S f W6 (by have:=cP6.cell 0;simpa using this) sL6 (by omega) (by omega) (by omega) hNS) KX.trans (fun W l o o' _ h ho _ => KX.putObj W l o o' h ho) (Below.refl _ _) (fun _ => rfl)
     (fun pre V => Cells V (W.heap.size + 1) (zCA (zJS l (pre.map (·.1)))) 262∧Same6 W6.heap.size (W.heap.size + 1) W6 V)
     (fun _ _ _ => False)
     (fun pre X Y row hs hg hr => ⟨(hg.block _ hs.1.lt (fun e => by have:=(hr _ e.symm).1;omega)).trans hs.1,hs.2.b.grown hg (by have:=hs.1.lt;omega) (fun q e => by have:=(hr q e).1;omega),fun q hq hn => (hg.block q (by have:=hs.2.b.size;omega) (fun e => by have:=(hr _ e.symm).1;omega)).trans (hs.2.s q hq hn)⟩)
     (fun _ _ _ _ _ hs _ _ => hs)
     ⟨cN6,Below.refl _ _,fun _ _ _ => rfl⟩
     (fun x => { tmps:=#[x0,.pointer (some ⟨w.heap.size,0,none⟩),x2,.pointer (some ⟨w.heap.size + 2,0,none⟩),.int .i64 i,.int .i64 s,.int .i64 k,x7,.pointer (some ⟨S,0,none⟩),x9,.pointer (some ⟨W.heap.size,0,none⟩),.pointer (some ⟨W.heap.size + 1 + 1,0,none⟩),.int .i64 x.1,x13,x14,x15,x16,x17,x18,.slice (some ⟨bs,offs,none⟩) p.sends.length c,.int .i64 p.sends.length,.int .i64 i,x22,x23,x24,x25,x26,.slice (some ⟨b4,off4,none⟩) p.routes.length cr,.int .i64 p.routes.length,.int .i64 k,x30,x31,x32,x33,x34,x35,x36,x37,x38,x39,x40,.slice (some ⟨b6,off6,none⟩) r.legs.length ca,.int .i64 r.legs.length,.int .i64 j,x44,x45,x46,x47,x48,x49,.func (.func 206) #[] #[.pointer (some ⟨W.heap.size + 1 + 1 + 1,0,none⟩)],.int .i64 x.1,x52,x53,x54,x55,x56,x57,x58,x59,x60,x61,x62,x63,x64,x65,x66,x67,x68,x69,x70,x71,x72,x73,x74,x75,x76,x77,x78,x79,x80,x81,x82,x83,x84,x85,x86,x87,x88],defers:=[] }) ?assign ?body ?done ?stop
    case assign =>
     intro l x W K hK
     unfold encH
     gi_wp2
     exact hK
    case body =>
     rintro l0 pre ⟨h,hh1,hh2⟩ V ⟨cN,sm⟩ hlt
     dsimp only
     have h48:=Hle.out h hh2
     have lok:=Hlok.out
     simp only [zDC,zCk,Bool.and_eq_true,decide_eq_true_eq] at lok
     obtain ⟨⟨⟨lo0,lo1⟩,lo2⟩,hasl⟩:=lok
     have Hasl:=Lib.hid hasl
     clear hasl
     have cLV:=sm.cells cL6 (by omega) (by omega)
     have l0c:=cLV.cell 0
     have l1c:=cLV.cell 1
     have lLV:=cLV.lt
     simp at l0c l1c
     have hcnt:((l.hi - l.lo + 1).toNat:Int)=l.hi - l.lo + 1:=by omega
     obtain ⟨cnt,hct⟩:∃ cnt,(l.hi - l.lo + 1).toNat=cnt:=⟨_,rfl⟩
     rw [hct] at hcnt
     have hc1:l.hi - l.lo + 1≤cnt∧(cnt:Int)≤l.hi - l.lo + 1:=by omega
     have Hct:=Lib.hid hct
     clear hct hcnt
     gi_wp2
     gi_loopw [60] (fun i wr => ∃ q:Nat,q≤cnt∧i=.int .i64 q∧Cells wr (W.heap.size + 1) (zCA (accN l (pre.map (·.1)) h q)) 262∧Same6 W6.heap.size (W.heap.size + 1) W6 wr∧KeepsOthers V wr∧KX W6.heap.size (W.heap.size + 1) V wr) (fun i _ => cnt - (intOf i).toNat)
     case atStart => exact ⟨0,Nat.zero_le _,rfl,by rw [zNW];exact cN,sm,KeepsOthers.refl _,KX.refl _ _ _⟩
     case round =>
      obtain ⟨q,hq,rfl,cq,smq,koq,kxq⟩:=hrel
      have cLq:=smq.cells cL6 (by omega) (by omega)
      have cBq:=smq.cells cB6 (by omega) (by omega)
      have y0:=cLq.cell 0
      have y1:=cLq.cell 1
      have y2:=cLq.cell 2
      have yL:=cLq.lt
      have yB:=cBq.cell 0
      have yBl:=cBq.lt
      simp at y0 y1 y2 yB
      by_cases hqc:q < cnt
      ·have bWq:Below W.heap.size W wr:=bw6.trans (smq.b.mono (by omega))
       have haw:∀ X,Below wr.heap.size wr X→Calls Tryz.prog 154 #[.agg #[.int .i64 l.lo,.int .i64 l.hi,.slice ar6 l.asl.length c6],.int .i64 ((h:Int) + l.lo + q)] X fun e w' => e=.returned (.int .i64 (awk l ((h:Int) + l.lo + q)))∧Below X.heap.size X w' :=
        fun X b => zIV ar6 c6 l ((h:Int) + l.lo + q) X ((hR6.below bWq).below b) las Hasl.out (by omega) (by omega)
       have hab:=zGk l ((h:Int) + l.lo + q)
       obtain ⟨v,hv⟩:∃ v:Nat,awk l ((h:Int) + l.lo + q)=v:=⟨(awk l ((h:Int) + l.lo + q)).toNat,by omega⟩
       have Hsu:=Lib.hid (zNX l (pre.map (·.1)) h q v hv)
       rw [hv] at haw hab
       have hv101:v < 101:=by omega
       have hvI:(v:Int) < 101:=by omega
       clear hv
       have w1:IntKind.i64.wrap ((h:Int) + l.lo)=(h:Int) + l.lo:=IntWalk.i64_in _ (by omega)
       have w2:IntKind.i64.wrap ((h:Int) + l.lo + q)=(h:Int) + l.lo + q:=IntWalk.i64_in _ (by omega)
       gi_wp2
       refine zFX 12 (by kernel_rfl) (by kernel_rfl) (by kernel_rfl) ?_
       simp only [zzA,zzB,zzC,zzD]
       (repeat (go_big_quiet_step ((go_at_call 154;refine zCj (haw _ (Ext.below _))))))
       refine wpQuiet_nil ?_
       rintro _ ⟨ex,rfl⟩
       have hex:=ex.below
       obtain ⟨W2,hW2⟩:∃ z:World,z=ex.to:=⟨_,rfl⟩
       rw [← hW2] at hex ⊢
       clear hW2
       have c2:=cq.below hex
       have f1:=c2.frozen v
       have g1:=c2.cell v
       rw [zEZ _ v hv101] at g1
       have lg:=c2.lt
       gi_wp2
       go_roundw
       case rel =>
        refine ⟨q + 1,by omega,by go_num,?_,⟨(smq.b.trans (hex.mono (by have:=cq.lt;omega))).setCell (p:=⟨W.heap.size + 1,v,none⟩) (Nat.le_refl _) _,fun z hz hn => ?_⟩,koq.trans ((KeepsOthers.of_below hex).trans (KeepsOthers.setCell _ _ _)),kxq.trans ((KX.below hex).trans (KX.setCell _ _ _))⟩
        ·have:=c2.set v (.bool true)
         rw [zGW] at this
         rw [Hsu.out];exact this
        ·rw [Below.heap_setCell _ _ _ _ (show z≠_ from hn),hex.block z (by have:=smq.b.size;omega)]
         exact smq.s z hz hn
       case measure => simp [intOf];omega
      ·obtain rfl:q=cnt:=by omega
       gi_wp2
       exact ⟨koq.from _,kxq,by rw [List.map_append];have:=cq;rw [← Hct.out,zOd] at this;exact this,smq⟩
    case done =>
     intro D ys V hD hys hI hK
     obtain ⟨cN,sm⟩:=hI
     have hb:Below W.heap.size W V:=bw6.trans (sm.b.mono (by omega))
     have cBV:=sm.cells cB6 (by omega) (by omega)
     have yB:=cBV.cell 0
     have yBl:=cBV.lt
     simp at yB
     rw [hys,zLN,← Hlt.out] at cN
     clear hys
     have hM':=hM.cons hb (show W.heap.size≤D by omega) (by have:=hW.b.size;omega) hK
     have hW':=hW.below hb
     have eL':=eL.below hb
     have zw:=hW.b.size
     have HK:=Lib.hid hK
     clear hK hM hW eL cL6 cN6 cB6 cP6 sL6 bw6
     go_wp2
     exact Handed.intro (g3 - 1) (by omega) (hJ3 _ _ _ ⟨j + 1,W.heap.size + 1,by omega,⟨rfl,rfl,rfl,rfl,rfl,rfl,rfl,rfl,rfl,rfl,rfl,rfl,rfl,rfl,by go_num,rfl⟩,hM',hW',eL',cN,by omega⟩)
    case stop =>
     rintro D c pre V _ _ h _
     exact h.elim
   ·obtain rfl:j=r.legs.length:=by omega
    have q3:=hW.cw.cell 3
    have lW:=hW.cw.lt
    simp at q3
    obtain ⟨nH,hnH,hH⟩:=hW.h
    have hFr:zCz r.legs s r.legs.length=hrF p i k:=by
     unfold zCz hrF zE1
     rw [Hrk.out,Hsg.out,List.take_length];rfl
    have hSC:SetC W S (hrF p i k):=by rw [← hFr];exact cS.setC
    clear hFr cS eL
    go_wp2_with (at_mapUpdate;refine zEt i k (by omega) (by omega) rfl _ _ _ rfl rfl rfl S rfl hSC hH (by unfold maxLen;omega) ?_;intro W8 hH8 hgr hcl)
    have hW8:WorkI p (some ⟨bs,offs,none⟩) c (some ⟨b4,off4,none⟩) cr w i (k + 1) W8 :=
     ⟨hW.b.grown hgr hW.b.size (fun q e => by cases e;omega),(hgr.block _ hW.cp.lt (by simp)).trans hW.cp,(hgr.block _ hW.cw.lt (by simp)).trans hW.cw,nH + 1,by omega,hH8.sub fun i' k' h => by unfold domF at h ⊢; omega⟩
    have hM8:=hM.grown hgr hH.noDefer
    go_wp2
    exact Handed.intro (g2 - 1) (by omega) (hJ2 _ _ _ ⟨k + 1,by omega,⟨rfl,rfl,rfl,rfl,rfl,rfl,rfl,rfl,rfl,by go_num,rfl⟩,hM8,hW8⟩)
  ·obtain rfl:k=p.routes.length:=by omega
   have hW' : WorkI p (some ⟨bs,offs,none⟩) c ar cr w (i + 1) 0 W:=⟨hW.b,hW.cp,hW.cw,let ⟨n,hn,hh⟩:=hW.h;⟨n,by omega,hh.sub fun i' k' h => by unfold domF at h ⊢; omega⟩⟩
   go_wp2
   exact Handed.intro (g - 1) (by omega) (hJ _ _ _ ⟨i + 1,by omega,⟨rfl,rfl,rfl,rfl,by go_num,rfl⟩,hM,hW'⟩)
 ·obtain rfl:i=p.sends.length:=by omega
  obtain ⟨n,hn,hh⟩:=hW.h
  go_wp2
  refine zEq ds _ hM fun w' hw' => ⟨_,results_tmp rfl _ _ _,?_⟩
  exact ⟨_,rfl,by omega,⟨_,n,hw'.cells hW.cw,(hh.sub (fun i' k' h => by unfold domF;omega)).turned hw'⟩,hW.b.trans hw'.1⟩
end Go.Proofs.YticjeianiahppaaGreatDoor.Cps
namespace Go.Proofs.YticjeianiahppaaGreatDoor.Cps
open Go.RowKit Go.Flow Go.Shelf
def zCy (p:Post) (k:Nat):Bool:=((p.routes[k]?).map (·.lossy)).getD false
def latN (p:Post) (i k:Nat):Int:=(List.range k).foldl (fun n j => if zCy p j then n else min n (lastH (hrF p i j))) 101
def earN (p:Post) (i k:Nat):Int:=(List.range k).foldl (fun n j => min n (zII (hrF p i j))) 101
def zDk (p:Post) (i:Nat):Int:=latN p i p.routes.length
def zFx (p:Post) (i:Nat):Int:=earN p i p.routes.length
theorem zDR (p:Post) (i k:Nat):latN p i (k + 1)=if zCy p k then latN p i k else min (latN p i k) (lastH (hrF p i k)):=by simp [latN,List.range_succ]
theorem zMy (p:Post) (i k:Nat):earN p i (k + 1)=min (earN p i k) (zII (hrF p i k)):=by simp [earN,List.range_succ]
theorem zMb {f:Hrs} (h:zH1 f 100) (hne:∃ n,f n=true):zBK f≠[]:=by
 obtain ⟨n,hn⟩:=hne
 have:=h n hn
 unfold zBK
 intro e
 have h2:n ∈ (List.range 101).filter f:=List.mem_filter.2 ⟨by simp;omega,hn⟩
 rw [List.map_eq_nil_iff] at e
 rw [e] at h2
 cases h2
theorem zNl {p:Post} (h:zA4 p=0) {i k:Nat} (hi:i < p.sends.length) (hk:k < p.routes.length):zH1 (hrF p i k) 48∧∃ n,hrF p i k n=true:=by
 obtain ⟨_,_,few,_,_,_,_,_,rok⟩:=zAi h
 have hs:=(zBg h).s _ (List.getElem_mem hi)
 unfold hrF
 rw [List.getElem?_eq_getElem hk]
 simp only [Option.map_some,Option.getD_some]
 rw [show p.sends.getD i 0=p.sends[i] by simp [hi]]
 exact zKP (List.all_eq_true.1 few _ (List.getElem_mem hk)) (List.all_eq_true.1 rok _ (List.getElem_mem hk)) hs
theorem zBt.below {p:Post} {a:Option Addr} {c:Nat} {ar:Option Addr} {cr Bw:Nat} {W W' : World} (h:zBt p a c ar cr Bw W) (hb:Below W.heap.size W W'):zBt p a c ar cr Bw W' :=
 let ⟨Bm,n,h1,h2⟩:=h;⟨Bm,n,h1.below hb,h2.below hb⟩
theorem zGa (a:Option Addr) (c:Nat) (ar:Option Addr) (cr:Nat) (p:Post) (Bw i:Nat) (w:World) (hw:zBt p a c ar cr Bw w) (hr:zAb w ar p.routes) (r3:p.routes.length≤3) (hi:i < p.sends.length) (n4:p.sends.length≤4) (hh:∀ k,k < p.routes.length→zBK (hrF p i k)≠[]) :
  Calls Tryz.prog 88 #[.pointer (some ⟨Bw,0,none⟩),.int .i64 i] w fun e w' => e=.returned (.int .i64 (zDk p i))∧Below w.heap.size w w':=by
 obtain ⟨Bm,nm,cW,hH⟩:=hw
 have q1:=cW.cell 1
 have q3:=cW.cell 3
 have lW:=cW.lt
 simp at q1 q3
 go_enter Tryz.func88,Tryz.ntmps88
 go_wp2
 go_loopw [5,14] (fun v o wr => ∃ k:Nat,k≤p.routes.length∧o=.int .i64 k∧v=.int .i64 (latN p i k)∧Below w.heap.size w wr) (fun _ o _ => p.routes.length - (intOf o).toNat)
 case atStart => exact ⟨0,Nat.zero_le _,rfl,rfl,Below.refl _ _⟩
 case round =>
  obtain ⟨k,hk,rfl,rfl,hb⟩:=hrel
  have p3:=zHV hb lW q3
  have lP:=zAK p3
  by_cases hkl:k < p.routes.length
  ·obtain ⟨b4,off4,al,ca,rfl,hbl4,e0,e1,eL⟩:=(hr.below hb) k hkl
   have Hs:=Lib.hid (zDR p i k)
   have hly:Hid (zCy p k=p.routes[k].lossy):=Lib.hid (by unfold zCy;rw [List.getElem?_eq_getElem hkl];rfl)
   obtain ⟨Sb,hrun,hSC⟩:=(hH.below hb).look i k ⟨hi,hkl⟩ (by omega) (by omega)
   have hrun':=fun o => hrun ⟨wr.alloc o,(Below.refl _ _).alloc (Nat.le_refl _) _⟩
   dsimp only at hrun'
   clear hrun
   obtain ⟨lo,hlo⟩:∃ x,p.routes[k].lossy=x:=⟨_,rfl⟩
   rw [hlo] at e1 hly
   clear hlo
   have hkI:(k:Int) < (p.routes.length:Int):=by omega
   have wb:∀ o,Below wr.heap.size wr (wr.alloc o):=fun o => (Below.refl _ _).alloc (Nat.le_refl _) _
   obtain ⟨m,hm⟩:∃ m,latN p i k=m:=⟨_,rfl⟩
   rw [hm] at Hs ⊢
   clear hm
   obtain ⟨z,hz⟩:∃ z,lastH (hrF p i k)=z:=⟨_,rfl⟩
   have hl:=fun o => zHA Sb (hrF p i k) z (Lib.hid hz) (wr.alloc o) (hSC.below (wb o)) (hh k hkl)
   rw [hz] at Hs
   clear hz hSC
   cases lo
   ·go_wp2_with fail
    go_at_call 157
    with_reducible refine (hl _).mono ?_
    rintro e w1 ⟨rfl,hb1⟩
    go_wp2_with (go_at_call 155;(with_reducible refine (zC1 _ m z 2 _ (zP0 w1 m z _)).mono ?_);rintro e w2 ⟨rfl,rfl⟩)
    go_roundw
    case rel => exact ⟨k + 1,by omega,by go_num,by rw [Hs.out,hly.out];rfl,hb.trans ((((wb _).trans (hb1.mono (wb _).size)).alloc (Nat.le_trans (wb _).size hb1.size) _).mono hb.size)⟩
    case measure => simp [intOf];omega
   ·go_wp2_with fail
    go_roundw
    case rel => exact ⟨k + 1,by omega,by go_num,by rw [Hs.out,hly.out];rfl,hb.trans ((wb _).mono hb.size)⟩
    case measure => simp [intOf];omega
  ·obtain rfl:k=p.routes.length:=by omega
   go_wp2
   go_ret
   exact ⟨rfl,hb⟩
theorem zMY (Sb:Nat) (f:Hrs) (w:World) (hS:SetC w Sb f) (hne:zBK f≠[]) (x:Int) (Hx:Hid (zII f=x)) :
  Calls Tryz.prog 156 #[.pointer (some ⟨Sb,0,none⟩)] w fun e w' => (∃ b n c,e=.returned (.slice (some ⟨b,0,none⟩) n c)∧0 < n∧w'.cell? ⟨b,0,none⟩=some (.int .i64 x))∧Below w.heap.size w w':=by
 refine (zFH Sb f _ (Lib.hid rfl) w hS).mono ?_
 rintro e w' ⟨⟨a,c,rfl,ho⟩,hb⟩
 have hpos:0 < (zBK f).length:=List.length_pos_iff.2 hne
 rcases ho.form with ⟨_,_,h3,_⟩ | ⟨g,rfl,_,_,_,_,_,hc⟩
 ·omega
 ·refine ⟨⟨g,_,c,rfl,hpos,?_⟩,hb⟩
  have:=hc 0 (.int .i64 ((zBK f)[0])) (by simp [hpos])
  rw [this,← Hx.out]
  simp [zII,hpos]
theorem zIQ (a:Option Addr) (c:Nat) (ar:Option Addr) (cr:Nat) (p:Post) (Bw i:Nat) (w:World) (hw:zBt p a c ar cr Bw w) (r3:p.routes.length≤3) (hi:i < p.sends.length) (n4:p.sends.length≤4) (hh:∀ k,k < p.routes.length→zBK (hrF p i k)≠[]) :
  Calls Tryz.prog 87 #[.pointer (some ⟨Bw,0,none⟩),.int .i64 i] w fun e w' => e=.returned (.int .i64 (zFx p i))∧Below w.heap.size w w':=by
 obtain ⟨Bm,nm,cW,hH⟩:=hw
 have q1:=cW.cell 1
 have q3:=cW.cell 3
 have lW:=cW.lt
 simp at q1 q3
 go_enter Tryz.func87,Tryz.ntmps87
 go_wp2
 go_loopw [5,13] (fun v o wr => ∃ k:Nat,k≤p.routes.length∧o=.int .i64 k∧v=.int .i64 (earN p i k)∧Below w.heap.size w wr) (fun _ o _ => p.routes.length - (intOf o).toNat)
 case atStart => exact ⟨0,Nat.zero_le _,rfl,rfl,Below.refl _ _⟩
 case round =>
  obtain ⟨k,hk,rfl,rfl,hb⟩:=hrel
  have p3:=zHV hb lW q3
  have lP:=zAK p3
  by_cases hkl:k < p.routes.length
  ·have Hs:=Lib.hid (zMy p i k)
   obtain ⟨Sb,hrun,hSC⟩:=(hH.below hb).look i k ⟨hi,hkl⟩ (by omega) (by omega)
   have hrun':=hrun ⟨wr,Below.refl _ _⟩
   dsimp only at hrun'
   clear hrun
   obtain ⟨m,hm⟩:∃ m,earN p i k=m:=⟨_,rfl⟩
   rw [hm] at Hs ⊢
   clear hm
   obtain ⟨z,hz⟩:∃ z,zII (hrF p i k)=z:=⟨_,rfl⟩
   have hl:=zMY Sb (hrF p i k) wr hSC (hh k hkl) z (Lib.hid hz)
   rw [hz] at Hs
   clear hz hSC
   go_wp2_with fail
   go_at_call 156
   with_reducible refine hl.mono ?_
   rintro e w1 ⟨⟨b,n,c1,rfl,hn,hc⟩,hb1⟩
   have hnI:(0:Int) < (n:Int):=by omega
   go_wp2_with (go_at_call 155;(with_reducible refine (zC1 _ m z 2 _ (zP0 w1 m z _)).mono ?_);rintro e w2 ⟨rfl,rfl⟩)
   go_roundw
   case rel => exact ⟨k + 1,by omega,by go_num,by rw [Hs.out],hb.trans ((hb1.alloc hb1.size _).mono hb.size)⟩
   case measure => simp [intOf];omega
  ·obtain rfl:k=p.routes.length:=by omega
   go_wp2
   go_ret
   exact ⟨rfl,hb⟩
def IntV (E:Int) (v:Value) (_:World):Prop:=v=.int .i64 E
theorem IntV.kept {E:Int} {v:Value} {w w' : World} (h:IntV E v w) (_:Below w.heap.size w w'):IntV E v w':=h
def finN (p:Post) (F:Nat→Int) (k:Nat):Int:=(List.range k).foldl (fun n j => max n (min (F j) (p.sends.getD j 0 + p.pat))) 0
theorem zMh (p:Post) (F:Nat→Int) (k:Nat):finN p F (k + 1)=max (finN p F k) (min (F k) (p.sends.getD k 0 + p.pat)):=by simp [finN,List.range_succ]
theorem zGc (a:Option Addr) (c:Nat) (ar:Option Addr) (cr:Nat) (p:Post) (Bw i:Nat) (g:FuncId) (F:Nat→Int) (w:World) (hw:zBt p a c ar cr Bw w) (hs:IntsAt w a p.sends) (hi:i < p.sends.length) (n4:p.sends.length≤4) (hrs:PostHours p)
  (hg:∀ args w,Sem.run Tryz.prog (callFunc g args) w=.ok (.enter g args) w)
  (hof:∀ j,j < p.sends.length→∀ W,Below w.heap.size w W→Calls Tryz.prog g #[.pointer (some ⟨Bw,0,none⟩),.int .i64 j] W fun e w' => e=.returned (.int .i64 (F j))∧Below W.heap.size W w') :
  Calls Tryz.prog 89 #[.agg #[.func (.func g) #[] #[]],.pointer (some ⟨Bw,0,none⟩),.int .i64 i] w fun e w' => e=.returned (.int .i64 (finN p F (i + 1)))∧Below w.heap.size w w':=by
 obtain ⟨Bm,nm,cW,hH⟩:=hw
 clear hH
 have wb:∀ o,Below w.heap.size w (w.alloc o):=fun o => (Below.refl _ _).alloc (Nat.le_refl _) _
 have cX:(w.alloc (.cells #[.func (.func g) #[] #[]] 171)).cell? ⟨w.heap.size,0,none⟩=some (.func (.func g) #[] #[]):=by rw [World.cell?_alloc_at _ _ _ _ rfl];rfl
 go_enter Tryz.func89,Tryz.ntmps89
 go_wp2
 go_loopw [6,10] (fun v o wr => ∃ k:Nat,k≤i + 1∧o=.int .i64 k∧v=.int .i64 (finN p F k)∧Below w.heap.size w wr∧wr.cell? ⟨w.heap.size,0,none⟩=some (.func (.func g) #[] #[])) (fun _ o _ => i + 1 - (intOf o).toNat)
 case atStart => exact ⟨0,Nat.zero_le _,rfl,rfl,wb _,cX⟩
 case round =>
  obtain ⟨k,hk,rfl,rfl,hb,cf⟩:=hrel
  clear cX
  have lf:=zAK cf
  by_cases hkl:k < i + 1
  ·have cWr:=cW.below hb
   have p0:=cWr.cell 0
   have p1:=cWr.cell 1
   have p2:=cWr.cell 2
   have lW:=cWr.lt
   simp at p0 p1 p2
   have Hs:=Lib.hid (zMh p F k)
   have hks:k < p.sends.length:=by omega
   have sb:=hrs.s _ (List.getElem_mem hks)
   have pb:=hrs.p
   have Hg:Hid (p.sends.getD k 0=p.sends[k]):=Lib.hid (by simp [hks])
   have hdl:∀ W,Below wr.heap.size wr W→Calls Tryz.prog 93 #[.agg #[.slice a p.sends.length c,.slice ar p.routes.length cr,.int .i64 p.pat],.int .i64 k] W fun e w' => e=.returned (.int .i64 (p.sends[k] + p.pat))∧Below W.heap.size W w' :=
    fun W b => zDW a c ar p.routes.length cr p.sends p.pat k W ((hs.below hb).below b) hks (by omega) (by omega) (by omega)
   have hf:=fun W (b:Below wr.heap.size wr W) => hof k hks W (hb.trans (b.mono hb.size))
   obtain ⟨d,hd⟩:∃ d,p.sends[k] + p.pat=d:=⟨_,rfl⟩
   obtain ⟨y,hy⟩:∃ y,F k=y:=⟨_,rfl⟩
   obtain ⟨m,hm⟩:∃ m,finN p F k=m:=⟨_,rfl⟩
   rw [hd] at hdl
   rw [hy] at hf Hs
   rw [hm] at Hs ⊢
   have Hd:Hid (p.sends.getD k 0 + p.pat=d):=Lib.hid (by rw [Hg.out,hd])
   clear hd hy hm hof Hg
   go_wp2
   have hmx:∀ {A B:Int},(if A < B then B else A)=max A B:=fun {A B} => by split <;> omega
   (refine zAD 15 [] [15] 30 [true,true,true,true,true,true,true,true,true,true,true,true,false,false,false] [LitV wr.heap.size 2 #[.int .i64 y,.int .i64 d] 3,IntV (min y d),IntV (max m (min y d))] (by kernel_rfl) (by kernel_rfl) rfl (zAB (fun v w w' h hb => h.kept hb) (zAB (fun v w w' h hb => h.kept hb) (zAB (fun v w w' h hb => h.kept hb) zAR))) ?_;simp only [zAU,List.filterMap_cons,List.filterMap_nil,zzH,zzI,zzJ];(repeat (refine zAM _ rfl (fun w => (by go_simp;rfl)) ?_));refine zAS ?_;simp only [zAF,zAt,Act.put,zzG,zzE,zzF,zzA,zzB,zzC,zzD];(repeat (refine zAL (fun K hK => ?_);go_simp;first | (refine hK _ ?_;clear hK K) | (apply Exists.intro;refine ⟨fun ex => ?_,hK _ ?_⟩;((first | (go_at_call 93;exact hdl _ ex.below) | exact hf _ ex.below));clear hK K)));refine zAQ ?_;simp only [zAT,under,zAZ,and_true,List.nil_append,List.cons_append])
   refine ⟨⟨?_,?_,?_⟩,?_⟩
   ·intro e
    go_simp
    exact ⟨(Below.refl _ _).alloc (Nat.le_refl _) _,e.to.heap.size,rfl,by have:=e.size;omega,Cells.new _ _ _⟩
   ·intro e v1 h1
    obtain ⟨gg,rfl,_,hgg⟩:=h1 (by kernel_rfl)
    go_simp
    refine (zC1 _ y d 2 e.to (hgg.ints [y,d] rfl)).mono ?_
    rintro _ _ ⟨rfl,rfl⟩
    exact ⟨Below.refl _ _,rfl⟩
   ·intro e v1 h1 v2 h2
    obtain rfl:=h2 (by kernel_rfl)
    rcases Int.lt_or_le (min y d) m with hlt | hlt
    ·go_simp
     exact ⟨Below.refl _ _,by unfold IntV;first | rfl | (congr 1;done) | (congr 1;omega)⟩
    ·go_simp
     exact ⟨Below.refl _ _,by unfold IntV;first | rfl | (congr 1;done) | (congr 1;omega)⟩
   ·intro e
    rintro v1 - v2 - v3 h3
    obtain rfl:v3=.int .i64 (max m (min y d)):=h3
    simp only [Act.put,zzG,zzE,zzF]
    have heb:=e.below
    obtain ⟨w5,hw5⟩:∃ x:World,x=e.to:=⟨_,rfl⟩
    rw [← hw5] at heb ⊢
    clear hw5 e hmx
    have cf5:=zHV heb lf cf
    go_wp2
    go_roundw
    case rel => exact ⟨k + 1,by omega,by go_num,by rw [Hs.out,Hd.out],hb.trans (heb.mono hb.size),cf5⟩
    case measure => simp [intOf];omega
  ·obtain rfl:k=i + 1:=by omega
   go_wp2
   go_ret
   exact ⟨rfl,hb⟩
def zQ7 (E:Int) (l:List Int) (e:Ending) (w' : World):Prop:=∃ a c,e=.returned (.tuple #[.slice a l.length c,.int .i64 E])∧IntsAt w' a l
def zOg (n:Nat) (E:Int) (l:List Int) (e:Ending) (w' : World):Prop:=∃ a c,e=.returned (.tuple #[.slice a l.length c,.int .i64 E])∧OwnL 3 1 n w' a c l.length (l.map (Value.int .i64))
def zBx (xs:List (Int × Int)):List Value:=xs.flatMap fun x => [.int .i64 x.1,.int .i64 x.2]
theorem zCR:∀ (xs:List (Int × Int)) (k:Nat) (h:k < xs.length),(zBx xs)[k * 2]?=some (.int .i64 xs[k].1)∧(zBx xs)[k * 2 + 1]?=some (.int .i64 xs[k].2)
 | x :: xs,0,_ => by simp [zBx]
 | x :: xs,k + 1,h => by
  obtain ⟨a,b⟩:=zCR xs k (by simpa using h)
  have e:zBx (x :: xs)=.int .i64 x.1 :: .int .i64 x.2 :: zBx xs:=by simp [zBx]
  rw [e,show (k + 1) * 2=k * 2 + 2 by omega]
  exact ⟨a,b⟩
theorem zEd (xs:List (Int × Int)) (x:Int × Int):zBx (xs ++ [x])=zBx xs ++ [.int .i64 x.1,.int .i64 x.2]:=by simp [zBx]
theorem _root_.Go.Proofs.YticjeianiahppaaGreatDoor.OwnL.recs2 {T:TypeId} {base:Nat} {w:World} {a:Option Addr} {c n:Nat} {xs:List (Int × Int)} (h:OwnL T 2 base w a c n (zBx xs)):zAX w a xs:=fun k hk => by
 rcases h.form with ⟨_,_,_,h4⟩ | ⟨g,rfl,_,hlt,_,_,_,hc⟩
 ·have:=(zCR xs k hk).1;rw [h4] at this;simp at this
 ·obtain ⟨e0,e1⟩:=zCR xs k hk
  exact ⟨g,0,rfl,hlt,by rw [Nat.zero_add];exact hc _ _ e0,by rw [Nat.zero_add];exact hc _ _ e1⟩
theorem zIv:(Tryz.prog.info? 70).map (fun i => (i.zero,i.size,i.bytes))=some (some (.agg #[.int .i64 0,.int .i64 0]),2,16):=by kernel_rfl
theorem zKx:Elem Tryz.prog 62 70 (.agg #[.int .i64 0,.int .i64 0]) 2 16:=⟨Tryz.underlying62,info_parts zIv,rfl,by decide⟩
def zF6 (p:Post) (i:Nat):Int × Int:=(finN p (zFx p) (i + 1),finN p (zDk p) (i + 1))
def zEn (p:Post) (k:Nat):List (Int × Int):=(List.range k).map (zF6 p)
theorem zIc (p:Post) (k:Nat):zEn p (k + 1)=zEn p k ++ [zF6 p k]:=by simp [zEn,List.range_succ]
theorem zGV (p:Post) (k:Nat):(zEn p k).length=k:=by simp [zEn]
def zDw (p:Post):List (Int × Int):=if zA4 p=0 then zEn p p.sends.length else []
def zOf (n:Nat) (E:Int) (l:List (Int × Int)) (e:Ending) (w' : World):Prop:=∃ a c,e=.returned (.tuple #[.slice a l.length c,.int .i64 E])∧OwnL 70 2 n w' a c l.length (zBx l)
def zQ5 (E:Int) (l:List (Int × Int)) (e:Ending) (w' : World):Prop:=∃ a c,e=.returned (.tuple #[.slice a l.length c,.int .i64 E])∧zAX w' a l
theorem zDj {p:Post} (h:zA4 p=0) {i:Nat} (hi:i < p.sends.length):∀ k,k < p.routes.length→zBK (hrF p i k)≠[]:=fun k hk => by
 obtain ⟨h1,h2⟩:=zNl h hi hk
 exact zMb (fun n hn => Nat.le_trans (h1 n hn) (by omega)) h2
theorem zQJ {a:Option Addr} {c:Nat} {ar:Option Addr} {cr:Nat} {p:Post} {Bw i:Nat} {w:World} (hw:zBt p a c ar cr Bw w) (hs:IntsAt w a p.sends) (h0:zA4 p=0) (hi:i < p.sends.length) :
  Calls Tryz.prog 89 #[.agg #[.func (.func 87) #[] #[]],.pointer (some ⟨Bw,0,none⟩),.int .i64 i] w fun e w' => e=.returned (.int .i64 (zF6 p i).1)∧Below w.heap.size w w':=by
 obtain ⟨n4,r3,_⟩:=zAi h0
 exact zGc a c ar cr p Bw i _ (zFx p) w hw hs hi n4 (zBg h0) (enters Tryz.func87 (by kernel_rfl) rfl) (fun j hj W b => zIQ a c ar cr p Bw j W (hw.below b) r3 hj n4 (zDj h0 hj))
theorem zP3 {a:Option Addr} {c:Nat} {ar:Option Addr} {cr:Nat} {p:Post} {Bw i:Nat} {w:World} (hw:zBt p a c ar cr Bw w) (hs:IntsAt w a p.sends) (hr:zAb w ar p.routes) (h0:zA4 p=0) (hi:i < p.sends.length) :
  Calls Tryz.prog 89 #[.agg #[.func (.func 88) #[] #[]],.pointer (some ⟨Bw,0,none⟩),.int .i64 i] w fun e w' => e=.returned (.int .i64 (zF6 p i).2)∧Below w.heap.size w w':=by
 obtain ⟨n4,r3,_⟩:=zAi h0
 exact zGc a c ar cr p Bw i _ (zDk p) w hw hs hi n4 (zBg h0) (enters Tryz.func88 (by kernel_rfl) rfl) (fun j hj W b => zGa a c ar cr p Bw j W (hw.below b) (hr.below b) r3 hj n4 (zDj h0 hj))
theorem zQY (a:Option Addr) (c:Nat) (ar:Option Addr) (cr:Nat) (p:Post) (w:World) (hs:IntsAt w a p.sends) (hr:zAb w ar p.routes) (sm:PostSmall p) :
  Calls Tryz.prog 30 #[.agg #[.slice a p.sends.length c,.slice ar p.routes.length cr,.int .i64 p.pat]] w fun e w' => zOf w.heap.size (zA4 p) (zDw p) e w'∧Below w.heap.size w w':=by
 have chk:=fun W (b:Below w.heap.size w W) => zCv a c ar cr p W (hs.below b) (hr.below b) sm
 have bd:=zD2 p
 have C0:Cells (w.alloc (.cells #[.slice a p.sends.length c,.slice ar p.routes.length cr,.int .i64 p.pat] 51)) w.heap.size #[.slice a p.sends.length c,.slice ar p.routes.length cr,.int .i64 p.pat] 51:=Cells.new _ _ _
 have t0:Below w.heap.size w (w.alloc (.cells #[.slice a p.sends.length c,.slice ar p.routes.length cr,.int .i64 p.pat] 51)):=(Below.refl _ _).alloc (Nat.le_refl _) _
 by_cases h0:zA4 p=0
 ·have hO:zDw p=zEn p p.sends.length:=by unfold zDw;rw [if_pos h0]
  rw [h0] at chk ⊢
  rw [hO]
  have wrk:=fun W (b:Below w.heap.size w W) => zFE a c ar cr p W (hs.below b) (hr.below b) h0
  obtain ⟨n4,_⟩:=zAi h0
  have H0:=Lib.hid h0
  clear h0 hO bd
  go_enter Tryz.func30,Tryz.ntmps30
  go_wp2_with fail
  go_at_call 85
  with_reducible refine (chk _ t0).mono ?_
  rintro e w1 ⟨rfl,hb1⟩
  have C1:=C0.below hb1
  have t1:Below w.heap.size w w1:=t0.trans (hb1.mono t0.size)
  have k0:=C1.cell 0
  have k1:=C1.cell 1
  have k2:=C1.cell 2
  have lC:=C1.lt
  simp at k0 k1 k2
  go_wp2_with fail
  go_at_call 86
  with_reducible refine (wrk _ t1).mono ?_
  rintro e w2 ⟨Bw,rfl,hBw,hW,hb2⟩
  have C2:=C1.below hb2
  have t2:Below w.heap.size w w2:=t1.trans (hb2.mono t1.size)
  clear k0 k1 k2 lC C1 hb2 C0 chk wrk
  have k0:=C2.cell 0
  have lC:=C2.lt
  simp at k0
  go_wp2
  obtain ⟨W3,hW3⟩:∃ z:World,z=((w2.alloc (.cells #[.func (.func 87) #[] #[]] 171)).alloc (.cells #[.func (.func 88) #[] #[]] 171)):=⟨_,rfl⟩
  have b3:Below w2.heap.size w2 W3:=by rw [hW3];exact ((Below.refl _ _).alloc (Nat.le_refl _) _).alloc (by simp) _
  have z3:W3.heap.size=w2.heap.size + 2:=by rw [hW3];simp
  have cE:Cells W3 w2.heap.size #[.func (.func 87) #[] #[]] 171:=by rw [hW3];exact (Cells.new _ _ _).alloc _
  have cF:Cells W3 (w2.heap.size + 1) #[.func (.func 88) #[] #[]] 171:=by rw [hW3];exact Cells.new' _ _ _ _ (by simp)
  rw [← hW3]
  clear hW3
  have t3:Below w.heap.size w W3:=t2.trans (b3.mono t2.size)
  have hW3:=hW.below b3
  clear hW C2 k0 lC
  go_loopw [8,22] (fun v o wr => ∃ (k:Nat) (ao:Option Addr) (co:Nat),k≤p.sends.length∧o=.int .i64 k∧v=.slice ao k co∧OwnL 70 2 W3.heap.size wr ao co k (zBx (zEn p k))∧Below W3.heap.size W3 wr) (fun _ o _ => p.sends.length - (intOf o).toNat)
  case atStart => exact ⟨0,none,0,Nat.zero_le _,rfl,rfl,OwnL.nil _ _ _ _,Below.refl _ _⟩
  case round =>
   obtain ⟨k,ao,co,hk,rfl,rfl,hown,hb⟩:=hrel
   by_cases hkl:k < p.sends.length
   ·have cEr:=cE.below hb
    have cFr:=cF.below hb
    have e0:=cEr.cell 0
    have f0:=cFr.cell 0
    have lE:=cEr.lt
    have lF:=cFr.lt
    simp at e0 f0
    have hWr:=hW3.below hb
    have tr:=t3.trans (hb.mono t3.size)
    have hL:∀ W,Below wr.heap.size wr W→_:=fun W b => zQJ (hWr.below b) (hs.below (tr.trans (b.mono tr.size))) H0.out hkl
    have hH:∀ W,Below wr.heap.size wr W→_:=fun W b => zP3 (hWr.below b) (hs.below (tr.trans (b.mono tr.size))) (hr.below (tr.trans (b.mono tr.size))) H0.out hkl
    have Hs:=Lib.hid (zIc p k)
    obtain ⟨y,hy⟩:∃ y,(zF6 p k).1=y:=⟨_,rfl⟩
    obtain ⟨z,hz⟩:∃ z,(zF6 p k).2=z:=⟨_,rfl⟩
    rw [hy] at hL
    rw [hz] at hH
    have Hyz:Hid (zF6 p k=(y,z)):=Lib.hid (by rw [← hy,← hz])
    have lz:=hb.size
    clear hy hz cEr cFr
    go_wp2
    (refine zAD 11 [] [11,12] 39 [true,true,true,true,true,true,true,true,true,true,false] [LitV W3.heap.size 1 #[.int .i64 y,.int .i64 z] 70] (by kernel_rfl) (by kernel_rfl) rfl (zAB (fun v w w' h hb => h.kept hb) zAR) ?_;simp only [zAU,List.filterMap_cons,List.filterMap_nil,zzH,zzI,zzJ];(repeat (refine zAM _ rfl (fun w => (by go_simp;rfl)) ?_));refine zAS ?_;simp only [zAF,zAt,Act.put,zzG,zzE,zzF,zzA,zzB,zzC,zzD];(repeat (refine zAL (fun K hK => ?_);go_simp;first | (refine hK _ ?_;clear hK K) | (apply Exists.intro;refine ⟨fun ex => ?_,hK _ ?_⟩;((go_at_call 89;first | (with_reducible exact hL _ ex.below) | (with_reducible exact hH _ ex.below)));clear hK K)));refine zAQ ?_;simp only [zAT,under,zAZ,and_true,List.nil_append,List.cons_append])
    refine ⟨?_,?_⟩
    ·intro e
     go_simp
     exact ⟨(Below.refl _ _).alloc (Nat.le_refl _) _,e.to.heap.size,rfl,by have:=e.size;omega,Cells.new _ _ _⟩
    ·intro e
     rintro v1 ⟨gg,rfl,hg1,hgg⟩
     simp only [Act.put,zzG,zzE,zzF]
     have heb:=e.below
     obtain ⟨w5,hw5⟩:∃ x:World,x=e.to:=⟨_,rfl⟩
     rw [← hw5] at heb hgg ⊢
     clear hw5 e hL hH
     have own5:=hown.kept heb
     have z5:=heb.size
     refine zA2 zKx rfl _ _ rfl W3.heap.size ao k co _ rfl own5 (some ⟨gg,0,none⟩) 1 1 [.int .i64 y,.int .i64 z] rfl (fun h => by cases h) rfl hgg.src (fun u hu => by simp at hu;rcases hu with rfl | rfl <;> rfl) (by unfold maxLen;omega) (by omega) (by omega) ?_
     intro a6 c6 w6 hown6 hb6
     go_wp2
     go_roundw
     case rel => exact ⟨k + 1,a6,c6,by omega,by go_num,rfl,by rw [Hs.out,Hyz.out,zEd];exact hown6,(hb.trans (heb.mono lz)).trans hb6⟩
     case measure => simp [intOf];omega
   ·obtain rfl:k=p.sends.length:=by omega
    go_wp2
    go_ret2
    exact ⟨⟨ao,co,by rw [zGV];rfl,by rw [zGV];exact hown.base_le t3.size⟩,t3.trans (hb.mono t3.size)⟩
 ·have hO:zDw p=[]:=by unfold zDw;rw [if_neg h0]
  rw [hO]
  obtain ⟨E,hEe⟩:∃ E,zA4 p=E:=⟨_,rfl⟩
  rw [hEe] at chk bd h0 ⊢
  have hne:(E != 0)=true:=by simpa using h0
  clear h0 hO hEe
  go_enter Tryz.func30,Tryz.ntmps30
  go_wp2_with fail
  go_at_call 85
  with_reducible refine (chk _ t0).mono ?_
  rintro e w1 ⟨rfl,hb1⟩
  have t1:Below w.heap.size w w1:=t0.trans (hb1.mono t0.size)
  go_wp2_with fail
  go_ret2
  exact ⟨⟨none,0,rfl,OwnL.nil _ _ _ _⟩,t1⟩
def zL5 (p:Post) (i:Nat):Bool:=decide (zDk p i≤p.sends.getD i 0 + p.pat)
def zEv (p:Post) (k:Nat):List Int:=((List.range k).filter (zL5 p)).map (fun (n:Nat) => (n:Int))
theorem zKK (p:Post) (k:Nat):zEv p (k + 1)=zEv p k ++ if zL5 p k=true then [(k:Int)] else []:=by
 unfold zEv
 rw [List.range_succ,List.filter_append,List.map_append]
 congr 1
 cases h:zL5 p k <;> simp [h]
theorem zL4 (p:Post) (k:Nat):(zEv p k).length≤k:=by
 unfold zEv
 rw [List.length_map]
 exact Nat.le_trans (List.length_filter_le _ _) (by simp)
def zF3 (p:Post):List Int:=if zA4 p=0 then zEv p p.sends.length else []
theorem zPw (a:Option Addr) (c:Nat) (ar:Option Addr) (cr:Nat) (p:Post) (w:World) (hs:IntsAt w a p.sends) (hr:zAb w ar p.routes) (sm:PostSmall p) :
  Calls Tryz.prog 32 #[.agg #[.slice a p.sends.length c,.slice ar p.routes.length cr,.int .i64 p.pat]] w fun e w' => zOg w.heap.size (zA4 p) (zF3 p) e w'∧Below w.heap.size w w':=by
 have chk:=fun W (b:Below w.heap.size w W) => zCv a c ar cr p W (hs.below b) (hr.below b) sm
 have bd:=zD2 p
 have C0:Cells (w.alloc (.cells #[.slice a p.sends.length c,.slice ar p.routes.length cr,.int .i64 p.pat] 51)) w.heap.size #[.slice a p.sends.length c,.slice ar p.routes.length cr,.int .i64 p.pat] 51:=Cells.new _ _ _
 have t0:Below w.heap.size w (w.alloc (.cells #[.slice a p.sends.length c,.slice ar p.routes.length cr,.int .i64 p.pat] 51)):=(Below.refl _ _).alloc (Nat.le_refl _) _
 by_cases h0:zA4 p=0
 ·have hO:zF3 p=zEv p p.sends.length:=by unfold zF3;rw [if_pos h0]
  rw [h0] at chk ⊢
  rw [hO]
  have wrk:=fun W (b:Below w.heap.size w W) => zFE a c ar cr p W (hs.below b) (hr.below b) h0
  obtain ⟨n4,_⟩:=zAi h0
  have H0:=Lib.hid h0
  clear h0 hO bd
  go_enter Tryz.func32,Tryz.ntmps32
  go_wp2_with fail
  go_at_call 85
  with_reducible refine (chk _ t0).mono ?_
  rintro e w1 ⟨rfl,hb1⟩
  have C1:=C0.below hb1
  have t1:Below w.heap.size w w1:=t0.trans (hb1.mono t0.size)
  have k0:=C1.cell 0
  have k1:=C1.cell 1
  have k2:=C1.cell 2
  have lC:=C1.lt
  simp at k0 k1 k2
  go_wp2_with fail
  go_at_call 86
  with_reducible refine (wrk _ t1).mono ?_
  rintro e w2 ⟨Bw,rfl,hBw,hW,hb2⟩
  have C2:=C1.below hb2
  have t2:Below w.heap.size w w2:=t1.trans (hb2.mono t1.size)
  clear k0 k1 k2 lC C1 hb2 C0 chk wrk
  have k0:=C2.cell 0
  have lC:=C2.lt
  simp at k0
  go_wp2
  clear k0 C2 lC
  go_loopw [6,18] (fun v o wr => ∃ (k:Nat) (ao:Option Addr) (co:Nat),k≤p.sends.length∧o=.int .i64 k∧v=.slice ao (zEv p k).length co∧OwnL 3 1 w2.heap.size wr ao co (zEv p k).length ((zEv p k).map (Value.int .i64))∧Below w2.heap.size w2 wr) (fun _ o _ => p.sends.length - (intOf o).toNat)
  case atStart => exact ⟨0,none,0,Nat.zero_le _,rfl,rfl,OwnL.nil _ _ _ _,Below.refl _ _⟩
  case round =>
   obtain ⟨k,ao,co,hk,rfl,rfl,hown,hb⟩:=hrel
   by_cases hkl:k < p.sends.length
   ·have hWr:=hW.below hb
    have tr:=t2.trans (hb.mono t2.size)
    have hWr2:=hWr
    obtain ⟨Bm,nm,cWr,_⟩:=hWr2
    have p0:=cWr.cell 0
    have p1:=cWr.cell 1
    have p2:=cWr.cell 2
    have lW:=cWr.lt
    simp at p0 p1 p2
    have n4r:=zAi H0.out
    have hhs:=zBg H0.out
    have hne:=zDj H0.out hkl
    have hL:∀ W,Below wr.heap.size wr W→_:=fun W b => zGa a c ar cr p Bw k W (hWr.below b) (hr.below (tr.trans (b.mono tr.size))) n4r.2.1 hkl n4 hne
    have hD:∀ W,Below wr.heap.size wr W→_:=fun W b => zDW a c ar p.routes.length cr p.sends p.pat k W ((hs.below tr).below b) hkl (by omega) (by have:=hhs.s _ (List.getElem_mem hkl);omega) (by have:=hhs.p;omega)
    have Hs:=Lib.hid (zKK p k)
    have Hg:Hid (p.sends.getD k 0=p.sends[k]):=Lib.hid (by simp [hkl])
    obtain ⟨y,hy⟩:∃ y,zDk p k=y:=⟨_,rfl⟩
    obtain ⟨z,hz⟩:∃ z,p.sends[k] + p.pat=z:=⟨_,rfl⟩
    rw [hy] at hL
    rw [hz] at hD
    have Hb:Hid (zL5 p k=decide (y≤z)):=Lib.hid (by unfold zL5;rw [Hg.out,hy,hz])
    have hln:(zEv p k).length≤k:=zL4 p k
    have lz:=hb.size
    obtain ⟨L,hLe⟩:∃ L,zEv p k=L:=⟨_,rfl⟩
    rw [hLe] at Hs hown hln ⊢
    clear hy hz n4r hhs hne hLe Hg cWr
    by_cases hyz:y≤z
    all_goals
     go_wp2
     (refine zAC 10 (by kernel_rfl) (by kernel_rfl) ?_;simp only [zzA,zzB,zzC,zzD];(repeat (go_big_quiet_step ((first | (go_at_call 93;refine zCj (hD _ (Ext.below _))) | (go_at_call 88;refine zCj (hL _ (Ext.below _)))))));refine wpQuiet_nil ?_;rintro _ ⟨ex,rfl⟩;have hex:=ex.below;have hexz:=ex.size;(try simp at hexz);(try (have hy0:w.heap.size < ex.to.heap.size:=by omega));(try (have hy1:w.heap.size + 1 < ex.to.heap.size:=by omega));(try (have hy2:w.heap.size + 2 < ex.to.heap.size:=by omega)))
     have own5:=hown.kept hex
    ·go_wp2_with (at_builtin;refine zBn zGM rfl _ _ rfl w2.heap.size ao L.length co _ rfl own5 1 1 rfl rfl (fun u hu => by simp at hu;subst hu;rfl) (by unfold maxLen;omega) (by omega) (by omega) ?_;intro a6 c6 w6 hown6 hb6)
     go_roundw
     case rel => exact ⟨k + 1,a6,c6,by omega,by go_num,by rw [Hs.out,Hb.out,if_pos (by simpa using hyz)];simp,by rw [Hs.out,Hb.out,if_pos (by simpa using hyz)];simpa using hown6,(hb.trans (hex.mono lz)).trans hb6⟩
     case measure => simp [intOf];omega
    ·go_wp2
     go_roundw
     case rel => exact ⟨k + 1,ao,co,by omega,by go_num,by rw [Hs.out,Hb.out,if_neg (by simpa using hyz)];simp,by rw [Hs.out,Hb.out,if_neg (by simpa using hyz)];simpa using own5,hb.trans (hex.mono lz)⟩
     case measure => simp [intOf];omega
   ·obtain rfl:k=p.sends.length:=by omega
    go_wp2
    go_ret2
    exact ⟨⟨ao,co,rfl,hown.base_le t2.size⟩,t2.trans (hb.mono t2.size)⟩
 ·have hO:zF3 p=[]:=by unfold zF3;rw [if_neg h0]
  rw [hO]
  obtain ⟨E,hEe⟩:∃ E,zA4 p=E:=⟨_,rfl⟩
  rw [hEe] at chk bd h0 ⊢
  have hne:(E != 0)=true:=by simpa using h0
  clear h0 hO hEe
  go_enter Tryz.func32,Tryz.ntmps32
  go_wp2_with fail
  go_at_call 85
  with_reducible refine (chk _ t0).mono ?_
  rintro e w1 ⟨rfl,hb1⟩
  have t1:Below w.heap.size w w1:=t0.trans (hb1.mono t0.size)
  go_wp2_with fail
  go_ret2
  exact ⟨⟨none,0,rfl,OwnL.nil _ _ _ _⟩,t1⟩
theorem zAd.setCell {w:World} {bm n:Nat} {F:Nat→Nat→Hrs} {dom:Nat→Nat→Prop} (h:zAd w bm n F dom) {Bw:Nat} {cs:Array Value} {T:TypeId} (hc:Cells w Bw cs T) (hb0:∀ b,cs[0]?≠some (.bool b)) (k:Nat) (v:Value):zAd (w.setCell ⟨Bw,k,none⟩ v) bm n F dom:=by
 obtain ⟨D,⟨es,clock,hb,Ft,hs,hD⟩,hG⟩:=h
 have hne:bm≠Bw:=fun e => by
  subst e
  have:=(show w.heap[bm]?=_ from hc).symm.trans hb
  simp at this
 refine ⟨D,⟨es,clock,(Below.heap_setCell w ⟨Bw,k,none⟩ v bm hne).trans hb,Ft,hs,hD⟩,fun i k' hd kl hkl => ?_⟩
 obtain ⟨Sb,h1,h2⟩:=hG i k' hd kl hkl
 have hS:Sb≠Bw:=fun e => by
  subst e
  have:=h2 0 (by omega)
  rw [hc.cell] at this
  exact hb0 _ this
 exact ⟨Sb,h1,fun m hm => zNE hS (h2 m hm)⟩
theorem zBt.lt {p:Post} {a:Option Addr} {c:Nat} {ar:Option Addr} {cr Bw:Nat} {w:World} (h:zBt p a c ar cr Bw w):Bw < w.heap.size:=by
 obtain ⟨Bm,n,h1,h2⟩:=h
 exact h1.lt
open Go.RowKit Go.Flow
theorem zKp (f:Hrs):((List.range 101).filter f).Pairwise (· < ·):=List.Pairwise.filter _ List.pairwise_lt_range
theorem zE9 {f:Hrs} (hne:zBK f≠[]):∃ m:Nat,m≤100∧f m=true∧lastH f=(m:Int)∧∀ n,n≤100→f n=true→n≤m:=by
 have hs:=zKp f
 unfold lastH
 unfold zBK at hne ⊢
 have hmem:∀ n,n ∈ (List.range 101).filter f↔n < 101∧f n=true:=fun n => by rw [List.mem_filter,List.mem_range]
 generalize (List.range 101).filter f=L at hs hne hmem ⊢
 have hL:L≠[]:=fun e => hne (by rw [e];rfl)
 have hpos:0 < L.length:=List.length_pos_iff.2 hL
 have hlast:L.length - 1 < L.length:=by omega
 refine ⟨L[L.length - 1],?_,?_,?_,?_⟩
 ·have:=(hmem _).1 (List.getElem_mem hlast);omega
 ·exact ((hmem _).1 (List.getElem_mem hlast)).2
 ·simp [hlast]
 ·intro n h1 h2
  obtain ⟨j,hj,rfl⟩:=List.getElem_of_mem ((hmem n).2 ⟨by omega,h2⟩)
  rcases Nat.lt_or_ge j (L.length - 1) with h | h
  ·exact Nat.le_of_lt (List.pairwise_iff_getElem.1 hs j _ hj hlast h)
  ·have e:j=L.length - 1:=by omega
   subst e;exact Nat.le_refl _
def badK (p:Post) (i h k:Nat):Bool:=!zCy p k && decide (lastH (hrF p i k) < (h:Int))
def zDx (p:Post) (i h k:Nat):Bool:=decide (h=101) || (List.range k).any fun j => decide (h < 101) && hrF p i j h
def canB (p:Post) (i h:Nat):Bool:=(List.range p.routes.length).all (fun k => !badK p i h k) && zDx p i h p.routes.length
theorem zJK {p:Post} {i h:Nat}:canB p i h=true↔(∀ k,k < p.routes.length→badK p i h k=false)∧(h=101∨∃ j,j < p.routes.length∧h < 101∧hrF p i j h=true):=by
 unfold canB zDx
 simp only [Bool.and_eq_true,Bool.or_eq_true,List.all_eq_true,List.any_eq_true,List.mem_range,decide_eq_true_eq,Bool.not_eq_true']
theorem zKN (p:Post) (i h k:Nat):zDx p i h (k + 1)=(zDx p i h k || (decide (h < 101) && hrF p i k h)):=by
 simp [zDx,List.range_succ,Bool.or_assoc]
theorem zOZ {p:Post} {i h k:Nat} (hk:k < p.routes.length) (hb:badK p i h k=true):canB p i h=false:=by
 unfold canB
 rw [show (List.range p.routes.length).all (fun k => !badK p i h k)=false by
  rw [List.all_eq_false];exact ⟨k,by simpa using hk,by simp [hb]⟩]
 rfl
theorem zOY {p:Post} {i h:Nat} (hb:∀ k,k < p.routes.length→badK p i h k=false):canB p i h=zDx p i h p.routes.length:=by
 unfold canB
 rw [show (List.range p.routes.length).all (fun k => !badK p i h k)=true by
  rw [List.all_eq_true];intro k hk;simp [hb k (by simpa using hk)]]
 rfl
theorem zBm {P:Nat→Prop} {k:Nat} (h:∀ j,j < k→P j) (hk:P k):∀ j,j < k + 1→P j:=fun j hj => by
 by_cases e:j=k
 ·subst e;exact hk
 ·exact h j (by omega)
theorem zPd (a:Option Addr) (c:Nat) (ar:Option Addr) (cr:Nat) (p:Post) (Bw i h:Nat) (w:World) (hw:zBt p a c ar cr Bw w) (hr:zAb w ar p.routes) (r3:p.routes.length≤3) (hi:i < p.sends.length) (n4:p.sends.length≤4) (hh:∀ k,k < p.routes.length→zBK (hrF p i k)≠[]) (h101:h≤101) :
  Calls Tryz.prog 163 #[.pointer (some ⟨Bw,0,none⟩),.int .i64 i,.int .i64 h] w fun e w' => e=.returned (.bool (canB p i h))∧Below w.heap.size w w':=by
 obtain ⟨Bm,nm,cW,hH⟩:=hw
 have q1:=cW.cell 1
 have q3:=cW.cell 3
 have lW:=cW.lt
 simp at q1 q3
 have h0:Hid (zDx p i h 0=((h:Int) == 101)):=Lib.hid (by simp only [zDx,List.range_zero,List.any_nil,Bool.or_false];rw [Bool.eq_iff_iff];simp;omega)
 obtain ⟨B,hB⟩:∃ B,canB p i h=B:=⟨_,rfl⟩
 have Hbad:Hid (∀ k,k < p.routes.length→badK p i h k=true→B=false):=Lib.hid (fun k hk hb => by rw [← hB];exact zOZ hk hb)
 have Hend:Hid ((∀ k,k < p.routes.length→badK p i h k=false)→B=zDx p i h p.routes.length):=Lib.hid (fun hb => by rw [← hB];exact zOY hb)
 rw [hB]
 clear hB
 go_enter Tryz.func163,Tryz.ntmps163
 go_wp2
 go_loopw [7,19] (fun v o wr => ∃ k:Nat,k≤p.routes.length∧o=.int .i64 k∧v=.bool (zDx p i h k)∧(∀ j,j < k→badK p i h j=false)∧Below w.heap.size w wr) (fun _ o _ => p.routes.length - (intOf o).toNat)
 case atStart => exact ⟨0,Nat.zero_le _,rfl,by rw [h0.out],fun j hj => absurd hj (Nat.not_lt_zero j),Below.refl _ _⟩
 case round =>
  obtain ⟨k,hk,rfl,rfl,hno,hb⟩:=hrel
  have Hno:=Lib.hid hno
  clear hno
  have p3:=zHV hb lW q3
  have lP:=zAK p3
  by_cases hkl:k < p.routes.length
  ·obtain ⟨b4,off4,al,ca,rfl,hbl4,e0,e1,eL⟩:=(hr.below hb) k hkl
   have Hs:=Lib.hid (zKN p i h k)
   have hly:Hid (zCy p k=p.routes[k].lossy):=Lib.hid (by unfold zCy;rw [List.getElem?_eq_getElem hkl];rfl)
   have Hbk:Hid (badK p i h k=(!zCy p k && decide (lastH (hrF p i k) < (h:Int)))):=Lib.hid rfl
   obtain ⟨Sb,hrun,hSC⟩:=(hH.below hb).look i k ⟨hi,hkl⟩ (by omega) (by omega)
   have hrun':=fun o => hrun ⟨wr.alloc o,(Below.refl _ _).alloc (Nat.le_refl _) _⟩
   dsimp only at hrun'
   clear hrun
   obtain ⟨lo,hlo⟩:∃ x,p.routes[k].lossy=x:=⟨_,rfl⟩
   rw [hlo] at e1 hly
   clear hlo
   rw [hly.out] at Hbk
   have hkI:(k:Int) < (p.routes.length:Int):=by omega
   have wb:∀ o,Below wr.heap.size wr (wr.alloc o):=fun o => (Below.refl _ _).alloc (Nat.le_refl _) _
   have hS2:=fun (hl:h < 101) o => (hSC.below (wb o)) h hl
   have lS:=hSC.lt
   obtain ⟨s,hse⟩:∃ s,zDx p i h k=s:=⟨_,rfl⟩
   have Hsf:Hid (s=false→h < 101):=Lib.hid (fun e => by
    have:zDx p i h k=false:=by rw [hse,e]
    simp only [zDx,Bool.or_eq_false_iff,decide_eq_false_iff_not] at this
    omega)
   rw [hse] at Hs ⊢
   clear hse
   obtain ⟨z,hz⟩:∃ z,lastH (hrF p i k)=z:=⟨_,rfl⟩
   have hl:=fun o => zHA Sb (hrF p i k) z (Lib.hid hz) (wr.alloc o) (hSC.below (wb o)) (hh k hkl)
   rw [hz] at Hbk
   obtain ⟨fv,hfv⟩:∃ fv,hrF p i k h=fv:=⟨_,rfl⟩
   rw [hfv] at Hs hS2
   clear hz hSC hfv h0
   cases lo
   ·by_cases hzh:z < (h:Int)
    ·have hB:B=false:=Hbad.out k hkl (by rw [Hbk.out];simpa using hzh)
     subst hB
     clear Hbad Hend
     go_wp2_with fail
     go_at_call 157
     with_reducible refine (hl _).mono ?_
     rintro e w1 ⟨rfl,hb1⟩
     go_wp2
     go_ret
     exact ⟨rfl,hb.trans (((wb _).trans (hb1.mono (wb _).size)).mono hb.size)⟩
    ·have hbk:badK p i h k=false:=by rw [Hbk.out];simpa using hzh
     have Hbk2:=Lib.hid hbk
     clear hbk
     cases s
     ·have h1:=Hsf.out rfl
      have h1I:(h:Int) < 101:=by omega
      have hS3:=hS2 h1
      clear hS2
      go_wp2_with fail
      go_at_call 157
      with_reducible refine (hl _).mono ?_
      rintro e w1 ⟨rfl,hb1⟩
      have hS4:=zAA hb1 (hS3 _)
      have lS4:=zAK hS4
      go_wp2
      go_roundw
      case rel => exact ⟨k + 1,by omega,by go_num,by rw [Hs.out];simp [h1],zBm Hno.out Hbk2.out,hb.trans (((wb _).trans (hb1.mono (wb _).size)).mono hb.size)⟩
      case measure => simp [intOf];omega
     ·go_wp2_with fail
      go_at_call 157
      with_reducible refine (hl _).mono ?_
      rintro e w1 ⟨rfl,hb1⟩
      go_wp2
      go_roundw
      case rel => exact ⟨k + 1,by omega,by go_num,by rw [Hs.out];rfl,zBm Hno.out Hbk2.out,hb.trans (((wb _).trans (hb1.mono (wb _).size)).mono hb.size)⟩
      case measure => simp [intOf];omega
   ·have hbk:badK p i h k=false:=by rw [Hbk.out];rfl
    have Hbk2:=Lib.hid hbk
    clear hbk
    cases s
    ·have h1:=Hsf.out rfl
     have h1I:(h:Int) < 101:=by omega
     have hS3:=hS2 h1
     clear hS2
     go_wp2
     go_roundw
     case rel => exact ⟨k + 1,by omega,by go_num,by rw [Hs.out];simp [h1],zBm Hno.out Hbk2.out,hb.trans ((wb _).mono hb.size)⟩
     case measure => simp [intOf];omega
    ·go_wp2
     go_roundw
     case rel => exact ⟨k + 1,by omega,by go_num,by rw [Hs.out];rfl,zBm Hno.out Hbk2.out,hb.trans ((wb _).mono hb.size)⟩
     case measure => simp [intOf];omega
  ·obtain rfl:k=p.routes.length:=by omega
   have hB:=Hend.out Hno.out
   obtain ⟨s,hse⟩:∃ s,zDx p i h p.routes.length=s:=⟨_,rfl⟩
   rw [hse] at hB ⊢
   subst hB
   clear hse Hend Hbad
   go_wp2
   go_ret
   exact ⟨rfl,hb⟩
open Go.Maps (Keyed)
def zAl (w:World) (b:Nat):Prop:=∃ es c,w.heap[b]?=some (.map es c)
structure Keep (bm:Nat) (w w' : World):Prop where
 grown:w.grownBy w' (some bm)
 old:zAl w bm
 new:zAl w' bm
theorem zAl.below {w w' : World} {b:Nat} (h:zAl w b) (hb:Below w.heap.size w w'):zAl w' b:=by
 obtain ⟨es,c,hm⟩:=h
 exact ⟨es,c,(hb.block b (Array.getElem?_eq_some_iff.1 hm).1).trans hm⟩
theorem Keep.refl {bm:Nat} {w:World} (h:zAl w bm):Keep bm w w:=⟨World.grownBy.refl _ _,h,h⟩
theorem Keep.of_below {bm:Nat} {w w' : World} (h:zAl w bm) (hb:Below w.heap.size w w'):Keep bm w w':=⟨zAg hb _,h,h.below hb⟩
theorem Keep.trans {bm:Nat} {a b c:World} (h:Keep bm a b) (k:Keep bm b c):Keep bm a c:=⟨h.grown.trans k.grown,h.old,k.new⟩
theorem Keep.size {bm:Nat} {w w' : World} (h:Keep bm w w'):w.heap.size≤w'.heap.size:=h.grown.size
theorem Keep.below {bm:Nat} {a b c:World} (h:Keep bm a b) (hb:Below b.heap.size b c):Keep bm a c:=h.trans (.of_below h.new hb)
theorem zAl.ne {w:World} {b:Nat} (h:zAl w b) {a:Addr} {v:Value} (hc:w.cell? a=some v):a.block≠b:=by
 intro e
 obtain ⟨es,c,hm⟩:=h
 rw [← e] at hm
 simp [World.cell?,hm] at hc
theorem Keep.cell {bm:Nat} {w w' : World} (h:Keep bm w w') {a:Addr} {v:Value} (hc:w.cell? a=some v):w'.cell? a=some v :=
 h.grown.cell hc (fun e => h.old.ne hc (Option.some.inj e))
theorem Keep.cells {bm:Nat} {w w' : World} (h:Keep bm w w') {g:Nat} {cs:Array Value} {T:TypeId} (hc:Cells w g cs T):Cells w' g cs T :=
 (h.grown.block g hc.lt (fun e => by
  have e:=Option.some.inj e
  obtain ⟨es,c,hm⟩:=h.old
  subst e
  have:=(show w.heap[g]?=_ from hc).symm.trans hm
  simp at this)).trans hc
theorem _root_.Go.Proofs.YticjeianiahppaaGreatDoor.IntsAt.keep {bm:Nat} {w w' : World} {a:Option Addr} {xs:List Int} (h:IntsAt w a xs) (k:Keep bm w w'):IntsAt w' a xs:=fun i hi =>
 let ⟨b,off,ha,hlt,hc⟩:=h i hi
 ⟨b,off,ha,Nat.lt_of_lt_of_le hlt k.size,k.cell hc⟩
theorem Keep.toBelow {bm B0:Nat} {a b:World} (h:Keep bm a b) (hb:B0≤bm) (hs:B0≤a.heap.size):Below B0 a b :=
 ⟨h.grown.os,h.grown.tape,h.grown.output,h.grown.size,fun k hk => h.grown.block k (by omega) (fun e => by have:=Option.some.inj e;omega)⟩
theorem zNb:(274:TypeId) < Tryz.prog.types.size:=of_decide_eq_true (by kernel_rfl)
theorem zL8:(match Tryz.prog.underlying 274 with | some (.array _ _) | some (.struct _) => true | _ => false)=true:=by kernel_rfl
theorem zD0:Keyed Tryz.prog 274:=Keyed.of_law (deep_law_laid zFJ (m:=4) (by omega) zNb (by kernel_rfl) zL8)
theorem zGU:Tryz.prog.cellsOf 274=2:=by kernel_rfl
theorem zHc:Tryz.prog.keyType 274=true:=by kernel_rfl
theorem zKd (n:Nat) (i k:Int) (hi:(Lit.int .i64 i).wf=true) (hk:(Lit.int .i64 k).wf=true):∃ l,Tryz.prog.keyLits (n + 2) 274 (zB9 i k).cells.toList=some l:=by
 have e0:=zCp n i hi
 have e1:=zCp n k hk
 refine ⟨[.int .i64 i,.int .i64 k],?_⟩
 unfold Program.keyLits
 rw [Tryz.underlying274]
 dsimp only
 rw [zGU]
 simp only [zB9,Value.cells]
 simp [intCells,e0,e1]
theorem zHb (i k:Int) (hi:0≤i∧i≤1000000) (hk:0≤k∧k≤1000000):∃ kl,keyOf Tryz.prog 274 (zB9 i k)=some kl:=by
 have hn:Tryz.prog.types.size + 1=(Tryz.prog.types.size - 1) + 2:=by have:=zEJ;omega
 obtain ⟨l,hl⟩:=zKd (Tryz.prog.types.size - 1) i k (zFq i hi.1 hi.2) (zFq k hk.1 hk.2)
 have hf:Value.formed Tryz.prog 274 (zB9 i k)=true:=by
  simp [Value.formed,Tryz.underlying274,zB9,zGU]
 unfold keyOf
 rw [hn,zHc,hf,Tryz.underlying274]
 dsimp only
 rw [hl]
 exact ⟨_,rfl⟩
def zO0:Value→Option (DataW Unit × List MemPlace)
 | .bool b => some (.lit (.bool b),[])
 | _ => none
theorem zNG {v:Value} {b:Bool} {ps:List MemPlace} (h:zO0 v=some (.lit (.bool b),ps)):v=.bool b:=by
 unfold zO0 at h
 split at h
 ·simp at h;rw [h.1]
 ·cases h
def zBW (w:World) (bm n:Nat) (G:Nat→Int→Prop):Prop :=
 ∃ D:DataW Unit,w.ownsMap Tryz.prog 274 zO0 bm n D ∧
  ∀ (i:Nat) (f:Int) kl,keyOf Tryz.prog 274 (zB9 i f)=some kl→∃ b,D.atKey kl (.lit (.bool false))=.lit (.bool b)∧(b=true→G i f)
theorem zBW.isMap {w:World} {bm n:Nat} {G:Nat→Int→Prop} (h:zBW w bm n G):zAl w bm:=by
 obtain ⟨D,⟨es,c,hm,_⟩,_⟩:=h
 exact ⟨es,c,hm⟩
theorem zBW.lt {w:World} {bm n:Nat} {G:Nat→Int→Prop} (h:zBW w bm n G):bm < w.heap.size:=by
 obtain ⟨D,ho,_⟩:=h
 exact ho.lt
theorem zBW.mono {w:World} {bm n n' : Nat} {G:Nat→Int→Prop} (h:zBW w bm n G) (hn:n≤n'):zBW w bm n' G:=by
 obtain ⟨D,ho,hG⟩:=h
 exact ⟨D,ho.mono hn,hG⟩
theorem zBW.below {w w' : World} {bm n:Nat} {G:Nat→Int→Prop} (h:zBW w bm n G) (hb:Below w.heap.size w w'):zBW w' bm n G:=by
 obtain ⟨D,ho,hG⟩:=h
 exact ⟨D,ho.kept (zAg hb none) (by simp),hG⟩
theorem zBW.made (w:World) (G:Nat→Int→Prop):zBW (w.alloc (.map #[] 0)) w.heap.size 0 G :=
 ⟨.map [],World.ownsMap_made w _ _ _,fun i f kl _ => ⟨false,rfl,fun h => by cases h⟩⟩
theorem zN2 (w:World):(zeroValue 4).run Tryz.prog w=.ok (.bool false) w:=by kernel_rfl
theorem zBW.look {w:World} {bm n:Nat} {G:Nat→Int→Prop} (h:zBW w bm n G) (i:Nat) (f:Int) (hi:i≤1000) (hf:0≤f∧f≤1000) :
  ∃ b:Bool,(∀ e:Ext w,(Instr.lookup 271 (.map (some bm)) (.agg #[.int .i64 i,.int .i64 f]) false).run Tryz.prog e.to=.ok (.bool b) e.to)∧(b=true→G i f):=by
 obtain ⟨D,ho,hG⟩:=h
 obtain ⟨kl,hkl⟩:=zHb i f (by omega) (by omega)
 obtain ⟨b,h1,h2⟩:=hG i f kl hkl
 refine ⟨b,fun e => ?_,h2⟩
 obtain ⟨v,ps,hrun,hv⟩:=World.ownsMap.lookup (ho.kept (zAg e.below none) (by simp)) zD0 Tryz.underlying271 (zN2 e.to) (zd:=.lit (.bool false)) (zp:=[]) rfl hkl
 rw [h1] at hv
 rw [zNG hv] at hrun
 exact hrun
theorem zFV {w:World} {ops:Array Oper} {rest:List Oper} {o:Oper} {a:Act} {Q:Exit→Act→World→Prop} {bm n:Nat} {G:Nat→Int→Prop} (i:Nat) (f:Int) (hi:i≤1000) (hf:0≤f∧f≤1000)
  (hg:o.guard=none) (m x v:Operand) (hop:o.op=Op.mapUpdate 271 m x v) (hm:a.eval m=.map (some bm)) (hx:a.eval x=.agg #[.int .i64 i,.int .i64 f]) (hv:a.eval v=.bool true)
  (hS:G i f) (h:zBW w bm n G) (hn:n < maxLen) (hK:∀ w',zBW w' bm (n + 1) G→Keep bm w w'→wpList Tryz.prog ops Q rest (a.put o.dst undef) w') :
  wpList Tryz.prog ops Q (o :: rest) a w:=by
 have hmap:=h.isMap
 obtain ⟨D,ho,hG⟩:=h
 obtain ⟨kl,hkl⟩:=zHb i f (by omega) (by omega)
 refine wpList_mapUpdate_own w hg m x v 271 hop 274 4 zD0 Tryz.underlying271 zO0 bm n D hm ho hn (.agg #[.int .i64 i,.int .i64 f]) (.bool true) kl hx hv hkl
  (.lit (.bool true)) [] rfl fun w' ho' hgr => ?_
 have hM:zBW w' bm (n + 1) G:=by
  refine ⟨_,ho',fun i' f' kl' hkl' => ?_⟩
  by_cases e:kl'=kl
  ·subst e
   have es:=zD0.inj hkl hkl'
   obtain ⟨e1,e2⟩:i=i'∧f=f':=by simp [zB9] at es;omega
   subst e1 e2
   exact ⟨true,by rw [Go.Maps.atKey_put_same ho.isMap (zD0.key hkl)],fun _ => hS⟩
  ·rw [Go.Maps.atKey_put_other e]
   exact hG i' f' kl' hkl'
 exact hK w' hM ⟨hgr,hmap,hM.isMap⟩
theorem zPD {a:Option Addr} {xs:List Int} {c:Nat} (hn:a=none→xs=[]∧c=0):a=none→xs.length=0∧c=0:=fun h => ⟨by rw [(hn h).1];rfl,(hn h).2⟩
theorem zND (a:Option Addr) (xs:List Int) (c:Nat) (w:World) (hx:IntsAt w a xs) (hn:a=none→xs=[]∧c=0) (hl:xs.length≤10000000000000) :
  Calls Tryz.prog 132 #[.slice a xs.length c] w fun e w' => ∃ a' c',e=.returned (.slice a' xs.length c')∧OwnL 3 1 w.heap.size w' a' c' xs.length (xs.map (Value.int .i64))∧Below w.heap.size w w':=by
 have hnil:∀ w,(binOp .eql 22 (.slice a xs.length c) (.slice none 0 0)).run Tryz.prog w=.ok (.bool a.isNone) w:=fun w => Lib.run_eql_slice_nil w _ _ _ _ _ _ _ Tryz.underlying22
 cases a with
 | none =>
  obtain ⟨rfl,rfl⟩:=hn rfl
  have hnil:∀ w,(binOp .eql 22 (.slice none 0 0) (.slice none 0 0)).run Tryz.prog w=.ok (.bool true) w:=fun w => Lib.run_eql_slice_nil w _ _ _ _ _ _ _ Tryz.underlying22
  show Calls Tryz.prog 132 #[.slice none 0 0] w _
  go_enter Tryz.func132,Tryz.ntmps132
  go_wp2
  go_ret
  exact ⟨none,0,rfl,OwnL.nil _ _ _ _,Below.refl _ _⟩
 | some ad =>
  simp only [Option.isNone_some] at hnil
  go_enter Tryz.func132,Tryz.ntmps132
  go_wp2_with (at_builtin;refine zA2 zGM rfl _ _ rfl w.heap.size _ _ _ _ rfl (OwnL.lit #[] (Nat.le_refl _) (by decide) rfl) (some ad) xs.length c _ rfl (zPD hn) (by simp) (SrcAt.ints (hx.below (by exact zzL))) (fun u hu => ?c3) (by unfold maxLen;omega) (by omega) (by simp) ?_)
  case c3 => obtain ⟨z,_,rfl⟩:=List.mem_map.1 hu;rfl
  intro a' c' w' h1 h2
  go_wp2
  go_ret
  exact ⟨a',c',by simp,by simpa using h1,((Below.refl _ _).alloc (Nat.le_refl _) _).trans h2⟩
def zQM (x e:Ent):Bool:=!(decide (x.num=e.num) && decide (x.at_=e.at_) && decide (x.skip=e.skip))
def zFS (i:Nat) (e x:Ent):Bool:=decide (x.num=(i:Int)) && zQM x e
def zJC (l:List Ent) (e:Ent) (i:Nat):Bool:=!(l.any (zFS i e))
def zB5 (p:Post) (l:List Ent):Nat→Nat→Int→Option (List Int)
 | 0,_,_ => some []
 | r + 1,i,f => (List.range 102).findSome? fun h => if canB p i h && zJC l (zC7 p i f h) i then (zB5 p l r (i + 1) (zC7 p i f h).at_).map ((h:Int) :: ·) else none
def zGv (p:Post) (l:List Ent) (r i:Nat) (f:Int) (h:Nat):Option (List Int):=if canB p i h && zJC l (zC7 p i f h) i then (zB5 p l r (i + 1) (zC7 p i f h).at_).map ((h:Int) :: ·) else none
theorem zK6 {p:Post} {l:List Ent} {r i:Nat} {f:Int} (h:∀ k,k < 102→zGv p l r i f k=none):zB5 p l (r + 1) i f=none:=by
 unfold zB5
 rw [List.findSome?_eq_none_iff]
 intro x hx
 exact h x (by simpa using hx)
theorem zK5 {p:Post} {l:List Ent} {r i k:Nat} {f:Int} {z:List Int} (hk:k < 102) (h:∀ j,j < k→zGv p l r i f j=none) (h2:zGv p l r i f k=some z):zB5 p l (r + 1) i f=some z:=by
 unfold zB5
 show (List.range 102).findSome? (zGv p l r i f)=some z
 rw [show 102=k + (1 + (101 - k)) by omega,List.range_add,List.findSome?_append,show (List.range k).findSome? (zGv p l r i f)=none by rw [List.findSome?_eq_none_iff];intro x hx;exact h x (by simpa using hx)]
 rw [Nat.add_comm 1,List.range_succ_eq_map]
 simp [h2]
theorem zPG {p:Post} {i:Nat} {f:Int} {h:Nat} (hf:0≤f∧f≤101) (hh:h≤101):0≤(zC7 p i f h).at_∧(zC7 p i f h).at_≤101:=by
 simp only [zC7];omega
def zDo:Nat→Nat
 | 0 => 0
 | r + 1 => 102 * zDo r + 1
theorem zOV {r:Nat} (h:r≤4):zDo r≤200000000:=by
 match r,h with
 | 0,_ | 1,_ | 2,_ | 3,_ | 4,_ => decide
theorem zI8 (i:Nat) (e:Ent) (Bn Be:Nat) (w:World) (hn:w.cell? ⟨Bn,0,none⟩=some (.int .i64 (i:Int))) (he:Cells w Be #[.int .i64 e.num,.int .i64 e.at_,.bool e.skip] 182) (x:Ent):zAc Tryz.prog w 162 #[] #[.pointer (some ⟨Bn,0,none⟩),.pointer (some ⟨Be,0,none⟩)] (.agg #[.int .i64 x.num,.int .i64 x.at_,.bool x.skip]) (zFS i e x):=by
 intro w' hb'
 have hn':=zAA hb' hn
 have he':=he.below hb'
 have e0:=he'.cell 0
 have e1:=he'.cell 1
 have e2:=he'.cell 2
 have lE:=he'.lt
 have lN:=zAK hn'
 simp at e0 e1 e2
 clear hn he
 show Calls Tryz.prog 162 #[.agg #[.int .i64 x.num,.int .i64 x.at_,.bool x.skip],.pointer (some ⟨Bn,0,none⟩),.pointer (some ⟨Be,0,none⟩)] w' _
 have wb:∀ o,Below w'.heap.size w' (w'.alloc o):=fun o => (Below.refl _ _).alloc (Nat.le_refl _) _
 by_cases hx:x.num=(i:Int)
 ·have hq:(x.num == (i:Int))=true:=by simpa using hx
  go_enter Tryz.func162,Tryz.ntmps162
  go_wp2
  all_goals
   go_ret
   exact ⟨zCM (by unfold zFS zQM;simp_all),wb _⟩
 ·have hq:(x.num == (i:Int))=false:=by simpa using hx
  go_enter Tryz.func162,Tryz.ntmps162
  go_wp2
  go_ret
  exact ⟨zCM (by unfold zFS;simp [hx]),wb _⟩
structure Sta (p:Post) (l:List Ent) (a:Option Addr) (c:Nat) (ar:Option Addr) (cr Bw:Nat) (al:Option Addr) (cl bw bl:Nat) (W0:World):Prop where
 hw:zBt p a c ar cr Bw W0
 hs:IntsAt W0 a p.sends
 hr:zAb W0 ar p.routes
 he:zCX W0 al l
 kw:W0.cell? ⟨bw,0,none⟩=some (.pointer (some ⟨Bw,0,none⟩))
 kl:W0.cell? ⟨bl,0,none⟩=some (.slice al l.length cl)
structure SAt (B0:Nat) (W0:World) (bw bf bd bl bn bm:Nat) (W:World):Prop where
 b:Below B0 W0 W
 kd:W.cell? ⟨bd,0,none⟩=some (.map (some bm))
 kn:W.cell? ⟨bn,0,none⟩=some (.func (.func 160) #[] #[.pointer (some ⟨bw,0,none⟩),.pointer (some ⟨bf,0,none⟩),.pointer (some ⟨bd,0,none⟩),.pointer (some ⟨bl,0,none⟩),.pointer (some ⟨bn,0,none⟩)])
 kf:∃ v,W.cell? ⟨bf,0,none⟩=some v
 ff:W.frozen? ⟨bf,0,none⟩=false
theorem Keep.frozen {bm:Nat} {w w' : World} (h:Keep bm w w') {p:Addr} {v:Value} (hc:w.cell? p=some v):w'.frozen? p=w.frozen? p :=
 World.frozen?_of_block (h.grown.block p.block (zBl hc) (fun e => h.old.ne hc (Option.some.inj e)))
theorem SAt.keep {W0:World} {bw bf bd bl bn bm:Nat} {W W' : World} (h:SAt W0.heap.size W0 bw bf bd bl bn bm W) (k:Keep bm W W') (hbm:W0.heap.size≤bm):SAt W0.heap.size W0 bw bf bd bl bn bm W' :=
 ⟨h.b.trans (k.toBelow hbm h.b.size),k.cell h.kd,k.cell h.kn,let ⟨v,hv⟩:=h.kf;⟨v,k.cell hv⟩,let ⟨v,hv⟩:=h.kf;by rw [k.frozen hv];exact h.ff⟩
theorem SAt.below {W0:World} {bw bf bd bl bn bm:Nat} {W W' : World} (h:SAt W0.heap.size W0 bw bf bd bl bn bm W) (k:Below W.heap.size W W'):SAt W0.heap.size W0 bw bf bd bl bn bm W' :=
 ⟨h.b.trans (k.mono h.b.size),zAA k h.kd,zAA k h.kn,let ⟨v,hv⟩:=h.kf;⟨v,zAA k hv⟩,let ⟨v,hv⟩:=h.kf;by rw [k.frozen (p:=⟨bf,0,none⟩) (zAK hv)];exact h.ff⟩
def zKE (W0:World) (bf bm n:Nat) (G:Nat→Int→Prop) (pre:List Int) (W:World):Option (List Int)→Ending→World→Prop
 | none,e,w' => e=.returned (.bool false)∧Keep bm W w'∧zBW w' bm n G
 | some hs,e,w' => e=.returned (.bool true)∧Below W0.heap.size W0 w'∧(∀ b o v,b≠bf→W.cell? ⟨b,o,none⟩=some v→w'.cell? ⟨b,o,none⟩=some v)∧∃ a c,w'.cell? ⟨bf,0,none⟩=some (.slice a (pre ++ hs).length c)∧IntsAt w' a (pre ++ hs)
section
variable {P:Program} {t E:TypeId} {z:Value} {size bytes:Nat} {w:World} {ops:Array Oper} {o:Oper} {a:Act} {Q:Exit→Act→World→Prop} {K:Act→World→Prop} {X:Prop}
theorem zFF (el:Elem P t E z size bytes) (hw:Region.wanted o (yielded ops a.tmps)=true) (s x:Operand) (ho:o.op=.call { callee:=.builtin .append,args:=#[s,x],argTypes:=#[t,t] })
  (base:Nat) (a0:Option Addr) (n c0:Nat) (xs:List Value) (hs:a.eval s=.slice a0 n c0) (hown:OwnL E size base w a0 c0 n xs)
  (g m c:Nat) (news:List Value) (hx:a.eval x=.slice (some ⟨g,0,none⟩) m c) (hl:news.length=m * size) (hsrc:SrcAt w (some ⟨g,0,none⟩) news) (h1:∀ u ∈ news,u.oneCell'=true)
  (hm:0 < m) (h63:n + m≤maxLen) (hbytes:(n + m) * bytes≤140737488355328) (hbase:base≤w.heap.size)
  (h:∀ g' c' w',OwnL E size base w' (some ⟨g',0,none⟩) c' (n + m) (xs ++ news)→Below base w w'→K (a.put o.dst (.slice (some ⟨g',0,none⟩) (n + m) c')) w') :
  if Region.wanted o (yielded ops a.tmps)=true then Oper.wp P o a w K Q else X:=by
 obtain ⟨i,hi,hz0,hz1,hz2⟩:=el.info
 rw [if_pos hw]
 refine wp_append_lies w s x t ho base E i z size bytes el.slice hi hz0 hz1 hz2 el.cells el.pos (.slice a0 n c0) n xs hs hown ⟨g,0,none⟩ m c news hx hl ?_ h1 hm h63 hbytes hbase w.heap.size rfl ?_
 ·intro j u hu
  obtain ⟨b,off,ha,hc⟩:=hsrc j u hu
  have ha:=Option.some.inj ha
  simp at ha
  obtain ⟨rfl,rfl⟩:=ha
  rw [addr_add];exact hc
 ·intro g' cap w' h2 h3 _ _
  exact h g' cap w' h2 (zAz hown hbase h3)
end
theorem zNn (p:Post) (l:List Ent) (a:Option Addr) (c:Nat) (ar:Option Addr) (cr Bw:Nat) (al:Option Addr) (cl bw bf bd bl bn bm:Nat) (W0:World) (S0:Sta p l a c ar cr Bw al cl bw bl W0) (h0:zA4 p=0) (ll:l.length≤1000)
  (hbm:W0.heap.size≤bm) (hbf:W0.heap.size≤bf) (hnf:bn≠bf) :
  ∀ (r i:Nat) (f:Int) (pre:List Int) (ah:Option Addr) (ch n:Nat) (W:World),i + r=p.sends.length→0≤f∧f≤101→pre.length=i→IntsAt W ah pre→(ah=none→pre=[]∧ch=0)→(∀ off,ah≠some ⟨bf,off,none⟩)→SAt W0.heap.size W0 bw bf bd bl bn bm W →
   zBW W bm n (fun i f => zB5 p l (p.sends.length - i) i f=none)→n + zDo r < maxLen →
  Calls Tryz.prog 160 #[.int .i64 i,.int .i64 f,.slice ah pre.length ch,.pointer (some ⟨bw,0,none⟩),.pointer (some ⟨bf,0,none⟩),.pointer (some ⟨bd,0,none⟩),.pointer (some ⟨bl,0,none⟩),.pointer (some ⟨bn,0,none⟩)] W
   (zKE W0 bf bm (n + zDo r) (fun i f => zB5 p l (p.sends.length - i) i f=none) pre W (zB5 p l r i f)):=by
 generalize hG:(fun (i:Nat) (f:Int) => zB5 p l (p.sends.length - i) i f=none)=G
 intro r
 induction r with
 | zero =>
  intro i f pre ah ch n W hir hf hpre hah hn hfr hS hD hc
  obtain rfl:i=p.sends.length:=by omega
  have hbS:Below W.heap.size W (W.alloc (.cells #[.int .i64 (p.sends.length:Int)] 3)):=(Below.refl _ _).alloc (Nat.le_refl _) _
  have kx0:(W.alloc (.cells #[.int .i64 (p.sends.length:Int)] 3)).cell? ⟨W.heap.size,0,none⟩=some (.int .i64 (p.sends.length:Int)):=by rw [World.cell?_alloc_at _ _ _ _ rfl];rfl
  have hI:((p.sends.length:Int) == (p.sends.length:Int))=true:=by simp
  have Hpre:=Lib.hid hpre
  clear hpre
  have S1:=hS.below hbS
  have ha1:=hah.below hbS
  clear h0 hir hah hD
  go_enter Tryz.func160,Tryz.ntmps160
  go_wp2
  obtain ⟨WS,hWS⟩:∃ z:World,z=W.alloc (.cells #[.int .i64 (p.sends.length:Int)] 3):=⟨_,rfl⟩
  rw [← hWS] at hbS kx0 S1 ha1 ⊢
  clear hWS
  have hb:=S1.b
  have kw:=(hb.cell (p:=⟨bw,0,none⟩) (zBl S0.kw)).trans S0.kw
  have lw:=zAK kw
  have lx:=zAK kx0
  have q0:WS.cell? ⟨Bw,0,none⟩=some (.slice a p.sends.length c):=by
   obtain ⟨Bm,nm,cW,_⟩:=S0.hw
   have cWr:Cells WS Bw _ _:=(hb.block Bw cW.lt).trans cW
   have:=cWr.cell 0
   simpa using this
  have lW:=zAK q0
  (refine zAC 8 (by kernel_rfl) (by kernel_rfl) ?_;simp only [zzA,zzB,zzC,zzD];(repeat (go_big_quiet_step ((fail))));refine wpQuiet_nil ?_;rintro _ ⟨ex,rfl⟩;have hex:=ex.below;have hexz:=ex.size;(try simp at hexz);(try (have hy0:w.heap.size < ex.to.heap.size:=by omega));(try (have hy1:w.heap.size + 1 < ex.to.heap.size:=by omega));(try (have hy2:w.heap.size + 2 < ex.to.heap.size:=by omega)))
  have S2:=S1.below hex
  have ha2:=ha1.below hex
  have hz2:=hex.size
  obtain ⟨W2,hW2⟩:∃ z:World,z=ex.to:=⟨_,rfl⟩
  have hbW:Below W.heap.size W W2:=by rw [hW2];exact hbS.trans (hex.mono hbS.size)
  rw [← hW2] at S2 ha2 hz2 ⊢
  clear hW2 S1 ha1 hex
  obtain ⟨v,hv⟩:=S2.kf
  have ff:=S2.ff
  have lf:=zAK hv
  have b2:=S2.b
  clear S2 hS
  go_wp2
  go_ret
  refine ⟨rfl,b2.setCell (p:=⟨bf,0,none⟩) hbf _,fun b o v hne hc => zNE hne (zAA hbW hc),ah,ch,?_,?_⟩
  ·rw [World.cell?_setCell_same _ _ _ hv];simp
  ·rw [List.append_nil]
   intro k hk
   obtain ⟨b',off,hae,hlt,hcc⟩:=ha2 k hk
   refine ⟨b',off,hae,by simpa using hlt,zNE (fun e => ?_) hcc⟩
   simp at e
   exact hfr off (by rw [hae,e])
 | succ r ih =>
  intro i f pre ah ch n W hir hf hpre hah hn hfr hS hD hc
  have hi:i < p.sends.length:=by omega
  have Hpre:=Lib.hid hpre
  have hbS:Below W.heap.size W (W.alloc (.cells #[.int .i64 (i:Int)] 3)):=(Below.refl _ _).alloc (Nat.le_refl _) _
  have kx0:(W.alloc (.cells #[.int .i64 (i:Int)] 3)).cell? ⟨W.heap.size,0,none⟩=some (.int .i64 (i:Int)):=by rw [World.cell?_alloc_at _ _ _ _ rfl];rfl
  have hI:((i:Int) == (p.sends.length:Int))=false:=by simp;omega
  have S1:=hS.below hbS
  have ha1:=hah.below hbS
  have D1:=hD.below hbS
  have mapW:=hD.isMap
  obtain ⟨oo,hoo⟩:∃ oo,zB5 p l (r + 1) i f=oo:=⟨_,rfl⟩
  rw [hoo]
  have Hoo:=Lib.hid hoo
  have Hn:=Lib.hid hn
  obtain ⟨n4,r3,_⟩:=zAi h0
  have hhs:=zBg h0
  have Hne:=Lib.hid (zDj h0 hi)
  have hcs:zDo (r + 1)=102 * zDo r + 1:=rfl
  have Hcs:=Lib.hid hcs
  have hSK:=Lib.hid hS
  clear hah hpre hD hoo hn hcs
  go_enter Tryz.func160,Tryz.ntmps160
  go_wp2
  obtain ⟨WS,hWS⟩:∃ z:World,z=W.alloc (.cells #[.int .i64 (i:Int)] 3):=⟨_,rfl⟩
  rw [← hWS] at hbS kx0 S1 ha1 D1 ⊢
  clear hWS
  have hb:=S1.b
  have kw:=(hb.cell (p:=⟨bw,0,none⟩) (zBl S0.kw)).trans S0.kw
  have lw:=zAK kw
  have lx:=zAK kx0
  have q0:WS.cell? ⟨Bw,0,none⟩=some (.slice a p.sends.length c):=by
   obtain ⟨Bm,nm,cW,_⟩:=S0.hw
   have cWr:Cells WS Bw _ _:=(hb.block Bw cW.lt).trans cW
   have:=cWr.cell 0
   simpa using this
  have lW:=zAK q0
  (refine zAC 8 (by kernel_rfl) (by kernel_rfl) ?_;simp only [zzA,zzB,zzC,zzD];(repeat (go_big_quiet_step ((fail))));refine wpQuiet_nil ?_;rintro _ ⟨ex,rfl⟩;have hex:=ex.below;have hexz:=ex.size;(try simp at hexz);(try (have hy0:w.heap.size < ex.to.heap.size:=by omega));(try (have hy1:w.heap.size + 1 < ex.to.heap.size:=by omega));(try (have hy2:w.heap.size + 2 < ex.to.heap.size:=by omega)))
  have S2:=S1.below hex
  have ha2:=ha1.below hex
  have D2:=D1.below hex
  have kx2:=zAA hex kx0
  obtain ⟨W2,hW2⟩:∃ z:World,z=ex.to:=⟨_,rfl⟩
  have hbW:Below W.heap.size W W2:=by rw [hW2];exact hbS.trans (hex.mono hbS.size)
  rw [← hW2] at S2 ha2 D2 kx2 ⊢
  clear hW2 S1 ha1 hex D1 hS kw lw lx q0 lW kx0 hbS hexz
  have kd:=S2.kd
  have lx:=zAK kx2
  have ld:=zAK kd
  obtain ⟨dd,hrun,hdd⟩:=D2.look i f (by omega) (by omega)
  have hrun':=hrun ⟨W2,Below.refl _ _⟩
  dsimp only at hrun'
  clear hrun
  cases dd
  ·go_wp2
   clear hrun' kd hdd
   go_loopw [29] (fun o wr => ∃ k:Nat,k≤102∧o=.int .i64 k∧(∀ j,j < k→zGv p l r i f j=none)∧Keep bm W2 wr∧zBW wr bm (n + k * zDo r) G) (fun o _ => 102 - (intOf o).toNat)
   case atStart => exact ⟨0,by omega,rfl,fun j hj => absurd hj (Nat.not_lt_zero j),Keep.refl D2.isMap,by simpa using D2⟩
   case round =>
    obtain ⟨k,hk,rfl,hno,hkp,hDr⟩:=hrel
    have Hno:=Lib.hid hno
    clear hno
    have Sr:=S2.keep hkp hbm
    have har:=ha2.keep hkp
    have kxr:=hkp.cell kx2
    have hkz:=hkp.size
    by_cases hk102:k < 102
    ·have hb:=Sr.b
     have kw:=(hb.cell (p:=⟨bw,0,none⟩) (zBl S0.kw)).trans S0.kw
     have lw:=zAK kw
     have lx:=zAK kxr
     obtain ⟨q0,q1,q2⟩:wr.cell? ⟨Bw,0,none⟩=some (.slice a p.sends.length c)∧wr.cell? ⟨Bw,1,none⟩=some (.slice ar p.routes.length cr)∧wr.cell? ⟨Bw,2,none⟩=some (.int .i64 p.pat):=by
      obtain ⟨Bm,nm,cW,_⟩:=S0.hw
      have cWr:Cells wr Bw _ _:=(hb.block Bw cW.lt).trans cW
      have h0:=cWr.cell 0
      have h1:=cWr.cell 1
      have h2:=cWr.cell 2
      exact ⟨by simpa using h0,by simpa using h1,by simpa using h2⟩
     have lW:=zAK q0
     have hsr:=fun X (b:Below wr.heap.size wr X) => S0.hs.below (hb.trans (b.mono hb.size))
     have hrv:=fun X (b:Below wr.heap.size wr X) => zIi a c ar cr p i f (k:Int) X (hsr X b) hi (by omega) (by have:=hhs.s _ (List.getElem_mem hi);omega) (by have:=hhs.p;omega)
     have hat:=zPG (p:=p) (i:=i) (f:=f) (h:=k) hf (by omega)
     have Hen:Hid (∃ e:Ent,zC7 p i f k=e∧e.num=i):=Lib.hid ⟨_,rfl,rfl⟩
     obtain ⟨en,hen,hnum⟩:=Hen.out
     have hgk:Hid (zGv p l r i f k=if canB p i k && zJC l en i then (zB5 p l r (i + 1) en.at_).map ((k:Int) :: ·) else none):=Lib.hid (by unfold zGv;rw [hen])
     rw [hen] at hrv hat
     have Hnum:=Lib.hid hnum
     clear hen hnum Hen
     go_wp2
     (refine zAD 9 [] [9] 69 [true,true,true,true,true,true,true,true,false] [PtrV wr.heap.size #[.int .i64 0,.int .i64 0,.bool false] 182] (by kernel_rfl) (by kernel_rfl) rfl (zAB (fun v w w' h hb => h.kept hb) zAR) ?_;simp only [zAU,List.filterMap_cons,List.filterMap_nil,zzH,zzI,zzJ];(repeat (refine zAM _ rfl (fun w => (by go_simp;rfl)) ?_));refine zAS ?_;simp only [zAF,zAt,Act.put,zzG,zzE,zzF,zzA,zzB,zzC,zzD];(repeat (refine zAL (fun K hK => ?_);go_simp;first | (refine hK _ ?_;clear hK K) | (apply Exists.intro;refine ⟨fun ex => ?_,hK _ ?_⟩;((go_at_call 161;exact hrv _ ex.below));clear hK K)));refine zAQ ?_;simp only [zAT,under,zAZ,and_true,List.nil_append,List.cons_append])
     refine ⟨?_,?_⟩
     ·intro e
      go_simp
      exact ⟨(Below.refl _ _).alloc (Nat.le_refl _) _,e.to.heap.size,rfl,by have:=e.size;omega,Cells.new _ _ _⟩
     intro e
     rintro v1 ⟨Be,rfl,hBe,CE⟩
     simp only [Act.put,zzG,zzE,zzF]
     have he5:=e.below
     obtain ⟨w5,hw5⟩:∃ x:World,x=e.to:=⟨_,rfl⟩
     rw [← hw5] at he5 CE ⊢
     clear hw5 e
     have z0:=CE.cell 0
     have z1:=CE.cell 1
     have z2:=CE.cell 2
     have y0:=CE.frozen 0
     have y1:=CE.frozen 1
     have y2:=CE.frozen 2
     have lE:=CE.lt
     simp at z0 z1 z2
     go_wp2
     obtain ⟨W9,hW9⟩:∃ x:World,x=((w5.setCell ⟨Be,0,none⟩ (.int .i64 (i:Int))).setCell ⟨Be,1,none⟩ (.int .i64 en.at_)).setCell ⟨Be,2,none⟩ (.bool en.skip):=⟨_,rfl⟩
     have b9:Below wr.heap.size wr W9:=by rw [hW9];exact ((he5.setCell (p:=⟨Be,0,none⟩) hBe _).setCell (p:=⟨Be,1,none⟩) hBe _).setCell (p:=⟨Be,2,none⟩) hBe _
     have C9:Cells W9 Be #[.int .i64 en.num,.int .i64 en.at_,.bool en.skip] 182:=by rw [hW9,Hnum.out];exact ((CE.set 0 _).set 1 _).set 2 _
     rw [← hW9]
     clear hW9 z0 z1 z2 y0 y1 y2 lE CE he5 hsr hrv q0 q1 q2 lW
     have b0:=hb.trans (b9.mono hb.size)
     have kw9:=zAA b9 kw
     have kx9:=zAA b9 kxr
     have kn9:=zAA b9 Sr.kn
     have kl9:=(b0.cell (p:=⟨bl,0,none⟩) (zBl S0.kl)).trans S0.kl
     have ka9:W9.cell? ⟨Be,1,none⟩=some (.int .i64 en.at_):=by have:=C9.cell 1;simpa using this
     have lw:=zAK kw9
     have lx:=zAK kx9
     have ln:=zAK kn9
     have lll:=zAK kl9
     have lE:=zAK ka9
     have hcan:=fun X (b:Below W9.heap.size W9 X) => zPd a c ar cr p Bw i k X ((S0.hw.below b0).below b) ((S0.hr.below b0).below b) r3 hi n4 Hne.out (by omega)
     have hcon:∀ X,Below W9.heap.size W9 X→Calls Tryz.prog 164 #[.slice al l.length cl,.func (.func 162) #[] #[.pointer (some ⟨W.heap.size,0,none⟩),.pointer (some ⟨Be,0,none⟩)]] X fun e w' => e=.returned (.bool (l.any (zFS i en)))∧Below X.heap.size X w' :=
      fun X b => zC5 al l cl 162 #[] #[.pointer (some ⟨W.heap.size,0,none⟩),.pointer (some ⟨Be,0,none⟩)] (zFS i en) X (by omega) ((S0.he.below b0).below b) (enters Tryz.func162 (by kernel_rfl) rfl) (fun x _ => zI8 i en W.heap.size Be X (zAA b kx9) (C9.below b) x)
     obtain ⟨cb,hcb⟩:∃ cb,canB p i k=cb:=⟨_,rfl⟩
     obtain ⟨wb,hwb⟩:∃ wb,l.any (zFS i en)=wb:=⟨_,rfl⟩
     have hgk2:zGv p l r i f k=if cb && !wb then (zB5 p l r (i + 1) en.at_).map ((k:Int) :: ·) else none:=by rw [hgk.out];unfold zJC;rw [hcb,hwb]
     rw [hcb] at hcan
     rw [hwb] at hcon
     have Hgk:=Lib.hid hgk2
     clear hgk2 hgk hcb hwb
     have hmul:n + k * zDo r≤n + (k + 1) * zDo r:=Nat.add_le_add_left (Nat.mul_le_mul_right _ (Nat.le_succ k)) n
     cases cb
     ·(refine zAC 23 (by kernel_rfl) (by kernel_rfl) ?_;simp only [zzA,zzB,zzC,zzD];(repeat (go_big_quiet_step (((go_at_call 163;refine zCj (hcan _ (Ext.below _)))))));refine wpQuiet_nil ?_;rintro _ ⟨ex,rfl⟩;have hex:=ex.below;have hexz:=ex.size;(try simp at hexz);(try (have hy0:w.heap.size < ex.to.heap.size:=by omega));(try (have hy1:w.heap.size + 1 < ex.to.heap.size:=by omega));(try (have hy2:w.heap.size + 2 < ex.to.heap.size:=by omega)))
      go_wp2
      go_roundw
      case rel => exact ⟨k + 1,by omega,by go_num,zBm Hno.out (by rw [Hgk.out];rfl),hkp.below (b9.trans (hex.mono b9.size)),(hDr.below (b9.trans (hex.mono b9.size))).mono hmul⟩
      case measure => simp [intOf];omega
     ·cases wb
      ·have nw:bw≠bf:=by have:bw < W0.heap.size:=zBl S0.kw;omega
       have nl:bl≠bf:=by have:bl < W0.heap.size:=zBl S0.kl;omega
       have lbf:bf < W.heap.size:=by obtain ⟨v,hv⟩:=hSK.out.kf;exact zAK hv
       have nx:W.heap.size≠bf:=by omega
       have nE:Be≠bf:=by omega
       have har9:=har.below b9
       have S9:=Sr.below b9
       have D9:=hDr.below b9
       have hn9:=Hn.out
       have hpl:pre.length≤1000:=by have:=Hpre.out;omega
       have hi1:IntKind.i64.wrap ((i:Int) + 1)=((i + 1:Nat):Int):=by rw [IntWalk.i64_in _ (by omega)];rfl
       have hcl:=fun X (b:Below W9.heap.size W9 X) => zND ah pre ch X (har9.below b) hn9 (by omega)
       obtain ⟨o2,ho2⟩:∃ o2,zB5 p l r (i + 1) en.at_=o2:=⟨_,rfl⟩
       have hnx:∀ X,Below W9.heap.size W9 X→∀ g' c',OwnL 3 1 W9.heap.size X (some ⟨g',0,none⟩) c' (pre.length + 1) (pre.map (Value.int .i64) ++ [.int .i64 (k:Int)]) →
         Calls Tryz.prog 160 #[.int .i64 ((i + 1:Nat):Int),.int .i64 en.at_,.slice (some ⟨g',0,none⟩) (pre.length + 1) c',.pointer (some ⟨bw,0,none⟩),.pointer (some ⟨bf,0,none⟩),.pointer (some ⟨bd,0,none⟩),.pointer (some ⟨bl,0,none⟩),.pointer (some ⟨bn,0,none⟩)] X
          (zKE W0 bf bm (n + k * zDo r + zDo r) G (pre ++ [(k:Int)]) X o2):=by
        intro X b g' c' hown
        have hown2:OwnL 3 1 W9.heap.size X (some ⟨g',0,none⟩) c' (pre.length + 1) ((pre ++ [(k:Int)]).map (Value.int .i64)):=by rw [List.map_append];exact hown
        have hg' : W9.heap.size≤g':=by
         rcases hown.form with ⟨h,_⟩ | ⟨g2,h,h2,_⟩
         ·cases h
         ·simp at h;omega
        have:=ih (i + 1) en.at_ (pre ++ [(k:Int)]) (some ⟨g',0,none⟩) c' (n + k * zDo r) X (by omega) hat (by have:=Hpre.out;simp;try omega) hown2.ints.1 (fun h => by cases h) (fun off h => by simp at h <;> omega) (S9.below b) (D9.below b) (by have:=Hcs.out;have h5:(k + 1) * zDo r≤102 * zDo r:=Nat.mul_le_mul_right _ (by omega);rw [Nat.succ_mul] at h5;omega)
        rw [ho2,show (pre ++ [(k:Int)]).length=pre.length + 1 by simp] at this
        exact this
       rw [ho2] at Hgk
       have elI:=zGM
       clear ho2 ih har9 S9 D9 hn9
       cases o2 with
       | none =>
        go_region_held3 (fun w' => w'.cell? ⟨bw,0,none⟩=some (.pointer (some ⟨Bw,0,none⟩))∧w'.cell? ⟨W.heap.size,0,none⟩=some (.int .i64 (i:Int))∧w'.cell? ⟨bl,0,none⟩=some (.slice al l.length cl)∧w'.cell? ⟨bn,0,none⟩=some (.func (.func 160) #[] #[.pointer (some ⟨bw,0,none⟩),.pointer (some ⟨bf,0,none⟩),.pointer (some ⟨bd,0,none⟩),.pointer (some ⟨bl,0,none⟩),.pointer (some ⟨bn,0,none⟩)])∧w'.cell? ⟨Be,1,none⟩=some (.int .i64 en.at_))
         (first
          | go_keep
          | (go_split_ands;refine ⟨?_,?_,?_,?_,?_⟩ <;> (first | exact zAA (by assumption) (by assumption) | exact zJy (by assumption) | exact (hb4.cell (by assumption)).trans (by assumption) | exact hk5.cell (by assumption))))
         (first
          | (go_at_call 163;refine (hcan _ (by exact zzL)).mono ?_;rintro e w1 ⟨rfl,hb1⟩;have hz1:=hb1.size;(try simp at hz1))
          | (go_at_call 164;refine (hcon _ (by exact zzL)).mono ?_;rintro e w2 ⟨rfl,hb2⟩;have hz2:=hb2.size;(try simp at hz2))
          | (go_at_call 132;refine (hcl _ (by exact zzL)).mono ?_;rintro e w3 ⟨a3,c3,rfl,hown3,hb3⟩;have hz3:=hb3.size;(try simp at hz3))
          | (refine zFF elI (by rfl) _ _ rfl W9.heap.size a3 pre.length c3 _ rfl ((OwnL.base_le hown3 (by first | omega | (simp;omega))).alloc _) _ 1 1 _ rfl rfl (Cells.src (Cells.new _ _ _)) (by simp [Value.oneCell']) (by omega) (by unfold maxLen;omega) (by omega) (by first | omega | (simp;omega)) ?_;intro g4 c4 w4 hown4 hb4;have hB4:Below W9.heap.size W9 w4:=by exact zzL)
          | (refine zFF elI (by rfl) _ _ rfl W9.heap.size a3 pre.length c3 _ rfl (OwnL.base_le hown3 (by first | omega | (simp;omega))) _ 1 1 _ rfl rfl (Cells.src (Cells.below (Cells.new _ _ _) hb3)) (by simp [Value.oneCell']) (by omega) (by unfold maxLen;omega) (by omega) (by first | omega | (simp;omega)) ?_;intro g4 c4 w4 hown4 hb4;have hB4:Below W9.heap.size W9 w4:=by exact zzL)
          | (go_at_call 160;refine (hnx _ hB4 _ _ hown4).mono ?_;rintro e w5 ⟨rfl,hk5,hd5⟩))
        all_goals
         go_wp2
         go_roundw
         case rel => exact ⟨k + 1,by omega,by go_num,zBm Hno.out (by rw [Hgk.out];rfl),hkp.trans ((Keep.of_below hDr.isMap (b9.trans (hB4.mono b9.size))).trans hk5),hd5.mono (by rw [Nat.succ_mul];omega)⟩
         case measure => simp [intOf];omega
       | some z =>
        go_region_held3 (fun w' => w'.cell? ⟨bw,0,none⟩=some (.pointer (some ⟨Bw,0,none⟩))∧w'.cell? ⟨W.heap.size,0,none⟩=some (.int .i64 (i:Int))∧w'.cell? ⟨bl,0,none⟩=some (.slice al l.length cl)∧w'.cell? ⟨bn,0,none⟩=some (.func (.func 160) #[] #[.pointer (some ⟨bw,0,none⟩),.pointer (some ⟨bf,0,none⟩),.pointer (some ⟨bd,0,none⟩),.pointer (some ⟨bl,0,none⟩),.pointer (some ⟨bn,0,none⟩)])∧w'.cell? ⟨Be,1,none⟩=some (.int .i64 en.at_))
         (first
          | go_keep
          | (go_split_ands;refine ⟨?_,?_,?_,?_,?_⟩ <;> (first | exact zAA (by assumption) (by assumption) | exact zJy (by assumption) | exact (hb4.cell (by assumption)).trans (by assumption) | exact hcl5 _ _ _ (by assumption) (by assumption))))
         (first
          | (go_at_call 163;refine (hcan _ (by exact zzL)).mono ?_;rintro e w1 ⟨rfl,hb1⟩;have hz1:=hb1.size;(try simp at hz1))
          | (go_at_call 164;refine (hcon _ (by exact zzL)).mono ?_;rintro e w2 ⟨rfl,hb2⟩;have hz2:=hb2.size;(try simp at hz2))
          | (go_at_call 132;refine (hcl _ (by exact zzL)).mono ?_;rintro e w3 ⟨a3,c3,rfl,hown3,hb3⟩;have hz3:=hb3.size;(try simp at hz3))
          | (refine zFF elI (by rfl) _ _ rfl W9.heap.size a3 pre.length c3 _ rfl ((OwnL.base_le hown3 (by first | omega | (simp;omega))).alloc _) _ 1 1 _ rfl rfl (Cells.src (Cells.new _ _ _)) (by simp [Value.oneCell']) (by omega) (by unfold maxLen;omega) (by omega) (by first | omega | (simp;omega)) ?_;intro g4 c4 w4 hown4 hb4;have hB4:Below W9.heap.size W9 w4:=by exact zzL)
          | (refine zFF elI (by rfl) _ _ rfl W9.heap.size a3 pre.length c3 _ rfl (OwnL.base_le hown3 (by first | omega | (simp;omega))) _ 1 1 _ rfl rfl (Cells.src (Cells.below (Cells.new _ _ _) hb3)) (by simp [Value.oneCell']) (by omega) (by unfold maxLen;omega) (by omega) (by first | omega | (simp;omega)) ?_;intro g4 c4 w4 hown4 hb4;have hB4:Below W9.heap.size W9 w4:=by exact zzL)
          | (go_at_call 160;refine (hnx _ hB4 _ _ hown4).mono ?_;rintro e w5 ⟨rfl,hW5,hcl5,a5,c5,hf5,hi5⟩))
        all_goals
         have hsome:zB5 p l (r + 1) i f=some ((k:Int) :: z):=zK5 hk102 Hno.out (by rw [Hgk.out];rfl)
         obtain rfl:oo=some ((k:Int) :: z):=by rw [← Hoo.out];exact hsome
         have cc:∀ b o v,W.cell? ⟨b,o,none⟩=some v→w4.cell? ⟨b,o,none⟩=some v:=fun b o v h => by
          have h1:=zAA b9 (hkp.cell (zAA hbW h))
          exact (hB4.cell (p:=⟨b,o,none⟩) (zAK h1)).trans h1
         have happ:(pre ++ [(k:Int)]) ++ z=pre ++ (k:Int) :: z:=by simp
         rw [happ] at hf5 hi5
         clear hsome Hoo
         go_wp2
         go_ret
         exact ⟨rfl,hW5,fun b o v hne h => hcl5 b o v hne (cc b o v h),a5,c5,hf5,hi5⟩
      ·(refine zAC 23 (by kernel_rfl) (by kernel_rfl) ?_;simp only [zzA,zzB,zzC,zzD];(repeat (go_big_quiet_step ((first | (go_at_call 163;refine zCj (hcan _ (Ext.below _))) | (go_at_call 164;refine zCj (hcon _ (Ext.below _)))))));refine wpQuiet_nil ?_;rintro _ ⟨ex,rfl⟩;have hex:=ex.below;have hexz:=ex.size;(try simp at hexz);(try (have hy0:w.heap.size < ex.to.heap.size:=by omega));(try (have hy1:w.heap.size + 1 < ex.to.heap.size:=by omega));(try (have hy2:w.heap.size + 2 < ex.to.heap.size:=by omega)))
       go_wp2
       go_roundw
       case rel => exact ⟨k + 1,by omega,by go_num,zBm Hno.out (by rw [Hgk.out];rfl),hkp.below (b9.trans (hex.mono b9.size)),(hDr.below (b9.trans (hex.mono b9.size))).mono hmul⟩
       case measure => simp [intOf];omega
    ·obtain rfl:k=102:=by omega
     have hnone:zB5 p l (r + 1) i f=none:=zK6 Hno.out
     obtain rfl:oo=none:=by rw [← Hoo.out];exact hnone
     have hg:G i f:=by rw [← hG];show zB5 p l (p.sends.length - i) i f=none;rw [show p.sends.length - i=r + 1 by omega];exact hnone
     have hnm:n + 102 * zDo r < maxLen:=by have:=Hcs.out;omega
     have kd:=Sr.kd
     have ld:=zAK kd
     have lx:=zAK kxr
     clear hnone Hoo
     go_wp2_with (at_mapUpdate;refine zFV i f (by omega) (by omega) rfl _ _ _ rfl rfl rfl rfl hg hDr hnm ?_;intro W8 hD8 hk8)
     go_wp2
     go_ret
     exact ⟨rfl,((Keep.of_below mapW hbW).trans hkp).trans hk8,hD8.mono (by have:=Hcs.out;omega)⟩
  ·have hnone:zB5 p l (r + 1) i f=none:=by
    have:=hdd rfl
    rw [← hG] at this
    have this:zB5 p l (p.sends.length - i) i f=none:=this
    rwa [show p.sends.length - i=r + 1 by omega] at this
   obtain rfl:oo=none:=by rw [← Hoo.out];exact hnone
   clear hnone Hoo hdd
   go_wp2
   go_ret
   exact ⟨rfl,Keep.of_below mapW hbW,D2.mono (by omega)⟩
end Go.Proofs.YticjeianiahppaaGreatDoor.Cps
