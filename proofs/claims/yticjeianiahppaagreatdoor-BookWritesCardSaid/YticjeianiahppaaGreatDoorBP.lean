/- The session book: contracts of the program and of the laws' helpers, joined (Ku). -/
import Derived.Test.YticjeianiahppaaGreatDoorBO
import Derived.Test.YticjeianiahppaaGreatDoorBI
import Derived.Deep.RegionHeld3
import Derived.Lib.SplitLaws
import Derived.Laws.CopyRow
import Derived.Deep.DeepCutAuto
set_option linter.unusedVariables false
set_option linter.unusedSimpArgs false
set_option linter.unnecessarySimpa false
set_option maxRecDepth 100000
set_option maxHeartbeats 40000000
namespace Go.Proofs.YticjeianiahppaaGreatDoor
open Go.RowKit Go.Flow
variable {hd:Nat}
def zB6 (s:ByteArray):List ByteArray:=Lib.splitB ⟨#[32]⟩ 0 (Lib.countB s ⟨#[32]⟩) s
def zDp (l:List UInt8):Option Cmd:=Cmd.all.find? fun c => c.word=l
def zAa (s:ByteArray):Option (Cmd × List Int) :=
 match zB6 s with
 | [] => none
 | x :: r => match zDp x.data.toList with
  | none => none
  | some c => if r.length=c.many then (r.mapM fun y => numF y.data.toList).map fun n => (c,n) else none
def zBb (S:BSt) (s:ByteArray):Int:=match zAa s with | none => 4 | some (c,n) => errL S c n
def zAy (S:BSt) (s:ByteArray):BSt:=match zAa s with | none => S | some (c,n) => if errL S c n=0 then nxtC S c n else S
def zD9 (hd g:Nat) (S:BSt) (s:ByteArray) (w:World) (e:Ending) (w' : World):Prop :=
 e=.returned (.int .i64 (zBb S s))∧KeepG g w w'∧∃ A,StAt hd w' g (zAy S s) A
theorem zL9 (s:ByteArray) (hs:s.size < 4294967281) (w:World) (hv:Vars w):Calls Tryz.prog 186 #[.string s,.string ⟨#[32]⟩] w fun e w' =>
  e=.returned (.slice (some ⟨w.heap.size,0,none⟩) (Lib.countB s ⟨#[32]⟩ + 1) (Lib.countB s ⟨#[32]⟩ + 1))∧w'=w.alloc (.cells ((zB6 s).map Value.string).toArray 9):=by
 obtain ⟨m,hm⟩:=hv.mx
 exact Tryz.strings_Split s ⟨#[32]⟩ m w hs hm (by decide)
theorem zOv (w:World):(zeroValue 304).run Tryz.prog w=.ok (.agg #[.int .i64 0,.nilFunc]) w:=by kernel_rfl
def actV:Option Cmd→Value
 | none => .agg #[.int .i64 0,.nilFunc]
 | some c => .agg #[.int .i64 c.many,.func (.func c.fn) #[] #[]]
theorem zMg {k:List UInt8} {c:Cmd} (h:zDp k=some c):c.word=k:=by
 have:=List.find?_some h
 simpa using this
theorem zJw (c:Cmd):zDp c.word=some c:=by cases c <;> rfl
theorem zPc (c:Cmd):c ∈ Cmd.all:=by cases c <;> decide
theorem zJh {w:World} {b:Nat} (h:TabM w b zKB) (k:ByteArray):(Instr.lookup 306 (.map (some b)) (.string k) true).run Tryz.prog w=.ok (.tuple #[actV (zDp k.data.toList),.bool (zDp k.data.toList).isSome]) w:=by
 rcases zN9 zAp kindStr h (zOv w) k with ⟨h1,h2⟩ | ⟨v,h1,h2⟩
 ·have hn:zDp k.data.toList=none:=by
   cases hc:zDp k.data.toList with
   | none => rfl
   | some c =>
    refine absurd ?_ (h2 (⟨c.word.toArray⟩,.agg #[.int .i64 c.many,.func (.func c.fn) #[] #[]]) (List.mem_map.2 ⟨c,zPc c,rfl⟩))
    show (⟨c.word.toArray⟩:ByteArray)=k
    rw [zMg hc]
  rw [h1,hn];rfl
 ·obtain ⟨c,_,e⟩:=List.mem_map.1 h2
  obtain ⟨rfl,rfl⟩:=Prod.mk.inj e
  rw [h1]
  show _=Result.ok (Value.tuple #[actV (zDp c.word),.bool (zDp c.word).isSome]) w
  rw [zJw];rfl
theorem zFZ (s:ByteArray):(zB6 s).length=Lib.countB s ⟨#[32]⟩ + 1:=Lib.splitB_all _ (by decide) 0 _ s rfl
theorem zLt {s x:ByteArray} {r:List ByteArray} {c:Cmd} (h:zB6 s=x :: r) (hc:zDp x.data.toList=some c) (hl:r.length≠c.many):zAa s=none:=by
 unfold zAa;rw [h];simp only [hc];rw [if_neg hl]
theorem zKY {s x:ByteArray} {r:List ByteArray} (h:zB6 s=x :: r) (hc:zDp x.data.toList=none):zAa s=none:=by
 unfold zAa;rw [h];simp only [hc]
theorem zG3 {s x:ByteArray} {r:List ByteArray} {c:Cmd} (h:zB6 s=x :: r) (hc:zDp x.data.toList=some c) (hl:r.length=c.many):zAa s=(r.mapM fun y => numF y.data.toList).map fun n => (c,n):=by
 unfold zAa;rw [h];simp only [hc];rw [if_pos hl]
theorem Cmd.many_le (c:Cmd):c.many≤4:=by cases c <;> decide
theorem zMQ (c:Cmd):IntKind.i64.wrap ((c.many:Int) + 1)=(c.many:Int) + 1:=IntWalk.i64_in _ (by have:=c.many_le;omega)
theorem zKL {X:World} {pe:Nat} {v:Value} {T:TypeId} (C:Cells X pe #[v] T):X.setCell ⟨pe,0,none⟩ v=X:=by
 rw [setCell_eq_setRow X pe 0 #[v] T (0,0) v C]
 exact setRow_self X pe _ T (0,0) C
theorem zIq (g pe:Nat) (a b d:Value) (S:BSt) (A:Adr) (s:ByteArray) (w X:World) (tm:Array Value) (ht:tm[4]?=some (.pointer (some ⟨pe,0,none⟩))) (hE:zBb S s=0) (hC:Cells X pe #[.int .i64 0] 59) (hk:KeepG g w X) (st:StAt hd X g (zAy S s) A) :
  Leaves Tryz.prog Tryz.f125 tm (zD9 hd g S s w) [⟨.fn (.func 185) #[a,b,d],#[]⟩] .returning X:=by
 refine leaves_cons (f:=185) (args:=#[a,b,d]) (by simp) (by simp [go_sem]) ?_
 refine (zLB a b d X).mono ?_
 rintro e u' w'' ⟨rfl,rfl,rfl⟩
 have e2:=hC.cell 0
 simp at e2
 have hL:zD9 hd g S s w (.returned (.int .i64 0)) w'':=⟨by rw [hE],hk,A,st⟩
 simp [Leaves,settle,results,Tryz.results125,go_sem,ht,e2]
 exact hL
theorem zPl (c:Cmd) (g:Nat) (S:BSt) (A:Adr) (an:Option Addr) (cn:Nat) (n:List Int) (hn:n.length=c.many) (w:World) (h:StAt hd w g S A) (F:Few S) (hI:IntsAt (mask hd g w) an n) :
  Calls Tryz.prog c.fn #[.pointer (some ⟨g,0,none⟩),.slice an n.length cn] w (zBA hd g S c n w):=by
 cases c
 case «book» =>
  match n,hn with
  | [a,b],_ => exact zOc g S A an cn a b w h F hI
 case «key» =>
  match n,hn with
  | [a,b,d],_ => exact zPj g S A an cn a b d w h F hI
 case «day» =>
  match n,hn with
  | [a],_ => exact zPk g S A an cn a w h F hI
 case «lost» =>
  match n,hn with
  | [a,b],_ => exact zOa g S A an cn a b w h F hI
 case «found» =>
  match n,hn with
  | [a],_ => exact zNU g S A an cn a w h F hI
 case «send» =>
  match n,hn with
  | [a],_ => exact zO7 g S A an cn a w h F hI
 case «route» =>
  match n,hn with
  | [a,b,d],_ => exact zNT g S A an cn a b d w h F hI
 case «leg» =>
  match n,hn with
  | [a,b,d],_ => exact zPi g S A an cn a b d w h F hI
 case «sleep» =>
  match n,hn with
  | [a,b,d,e],_ => exact zNS g S A an cn a b d e w h F hI
 case «wait» =>
  match n,hn with
  | [a],_ => exact zO6 g S A an cn a w h F hI
 case «came» =>
  match n,hn with
  | [a,b],_ => exact zOb g S A an cn a b w h F hI
 case «skipped» =>
  match n,hn with
  | [a,b],_ => exact zJR g S A an cn a b w h F hI
 case «strike» =>
  match n,hn with
  | [a],_ => exact zLL g S A an cn a w h F hI
 case «rate» =>
  match n,hn with
  | [a,b],_ => exact zO8 g S A an cn a b w h F hI
 case «paid» =>
  match n,hn with
  | [a,b,d,e],_ => exact zO9 g S A an cn a b d e w h F hI
 case «passed» =>
  match n,hn with
  | [a,b],_ => exact zLM g S A an cn a b w h F hI
 case «words» =>
  match n,hn with
  | [a,b,d],_ => exact zNR g S A an cn a b d w h F hI
theorem zM6 {w:World} {g base c n:Nat} {a:Option Addr} {zs:List Int} (own:OwnL 3 1 base w a c n (zs.map (Value.int .i64))) (hb:g < base) (hb2:hd < base):IntsAt (mask hd g w) a zs:=by
 intro k hk
 obtain ⟨b,off,ha,hlt,hc⟩:=own.ints.1 k hk
 rcases own.form with ⟨h,_⟩ | ⟨b',h,hb',_⟩
 ·rw [h] at ha;cases ha
 ·have e:b=b':=by rw [ha] at h;simp at h;exact h.1
  refine ⟨b,off,ha,by rw [zAJ];exact hlt,?_⟩
  rw [zDM w (by show g < b;omega) (by show b≠hd;omega)]
  exact hc
theorem Cells.keepG {w w' : World} {g b:Nat} {cs:Array Value} {T:TypeId} (h:Cells w b cs T) (k:KeepG g w w') (n:b≠g):Cells w' b cs T:=by
 have hl:=h.lt
 have:=k.below.block b hl
 rw [zAG w n,zAG w' n] at this
 unfold Cells at h ⊢
 rw [this];exact h
theorem zE7 {S:BSt} {s:ByteArray} {c:Cmd} {n:List Int} (h:zAa s=some (c,n)):zBb S s=errL S c n:=by unfold zBb;rw [h]
theorem zNz {S:BSt} {s:ByteArray} {c:Cmd} {n:List Int} (h:zAa s=some (c,n)) (h0:errL S c n=0):zAy S s=nxtC S c n:=by unfold zAy;rw [h];exact if_pos h0
theorem zMZ {S:BSt} {s:ByteArray} {c:Cmd} {n:List Int} (h:zAa s=some (c,n)) (h0:errL S c n≠0):zAy S s=S:=by unfold zAy;rw [h];exact if_neg h0
theorem zF4 (sep:ByteArray):∀ (k:Nat) (s:ByteArray),∀ y ∈ Lib.splitB sep 0 k s,y.size≤s.size
 | 0,s,y,h => by simp [Lib.splitB] at h;subst h;exact Nat.le_refl _
 | k + 1,s,y,h => by
  unfold Lib.splitB at h
  split at h
  ·simp at h;subst h;exact Nat.le_refl _
  ·rcases List.mem_cons.1 h with rfl | h
   ·simp [ByteArray.size_extract];omega
   ·refine Nat.le_trans (zF4 sep k _ y h) ?_
    simp [ByteArray.size_extract]
theorem zH7 {s x:ByteArray} {r:List ByteArray} (h:zB6 s=x :: r) {y:ByteArray} (hy:y ∈ r):y.size≤s.size :=
 zF4 _ _ _ y (by rw [← show zB6 s=Lib.splitB _ 0 _ s from rfl,h];exact List.mem_cons_of_mem _ hy)
theorem zMP {f:ByteArray→Option Int} {r:List ByteArray} {k:Nat} {ns:List Int} (h:k < r.length) (hn:(r.take k).mapM f=some ns) {v:Int} (hv:f r[k]=some v):(r.take (k + 1)).mapM f=some (ns ++ [v]):=by
 rw [List.take_succ_eq_append_getElem h,List.mapM_append,hn]
 simp [hv]
theorem zNs {f:ByteArray→Option Int} {r:List ByteArray} {k:Nat} (h:k < r.length) (hv:f r[k]=none):r.mapM f=none:=by
 cases hq:r.mapM f with
 | none => rfl
 | some l =>
  exfalso
  have:∀ (r:List ByteArray) (l:List Int),r.mapM f=some l→∀ y ∈ r,f y≠none:=by
   intro r
   induction r with
   | nil => intro l _ y hy;cases hy
   | cons a t ih =>
    intro l hl y hy
    rw [List.mapM_cons] at hl
    cases ha:f a with
    | none => rw [ha] at hl;simp at hl
    | some u =>
     rw [ha] at hl
     cases ht:t.mapM f with
     | none => rw [ht] at hl;simp at hl
     | some tl =>
      rcases List.mem_cons.1 hy with rfl | hy
      ·rw [ha];simp
      ·exact ih tl ht y hy
  exact this r l hq r[k] (List.getElem_mem h) hv
theorem zE8 {S:BSt} {s:ByteArray} (h:zAa s=none):zBb S s=4:=by unfold zBb;rw [h]
theorem zE6 {S:BSt} {s:ByteArray} (h:zAa s=none):zAy S s=S:=by unfold zAy;rw [h]
theorem KeepG.put {g:Nat} {w w' w'' : World} (h:KeepG g w w') (hm:zCY g w'=zCY g w''):KeepG g w w'':=⟨h.lt,by rw [← hm];exact h.below⟩
theorem zD5 (g bs pw pe:Nat) (S:BSt) (A:Adr) (s:ByteArray) (w X:World) (tm:Array Value) (ht:tm[4]?=some (.pointer (some ⟨pe,0,none⟩))) (E y:Int) (hE:zBb S s=E) (hSt:zAy S s=S)
  (hP:Cells X pw #[.pointer (some ⟨g,0,none⟩)] 157) (hC:Cells X pe #[.int .i64 y] 59) (hS:Cells X bs (zAW S A) 57) (hk:KeepG g w X) (hl:Lists (mask hd g w) S A) (hB:Blk X g)
  (n1:bs≠g) (n2:pw≠g) (n3:pe≠g) (hpe:w.heap.size≤pe) (hh:hd < w.heap.size) :
  Leaves Tryz.prog Tryz.f125 tm (zD9 hd g S s w) [⟨.fn (.func 185) #[.pointer (some ⟨bs,0,none⟩),.pointer (some ⟨pw,0,none⟩),.pointer (some ⟨pe,0,none⟩)],#[]⟩] (.panicking [{ v:=.iface 300 (.int .i64 E),recovered:=false }]) X:=by
 refine leaves_cons (f:=185) (args:=#[.pointer (some ⟨bs,0,none⟩),.pointer (some ⟨pw,0,none⟩),.pointer (some ⟨pe,0,none⟩)]) (by simp) (by simp [go_sem]) ?_
 refine (zHT bs pw pe g E y S A X hS hP hC hB n1 n2 n3).mono ?_
 rintro e u' w'' ⟨rfl,rfl,w1,rfl,hm,hc⟩
 have k1:KeepG g w w1:=hk.put hm.symm
 have C1:Cells w1 pe #[.int .i64 y] 59:=by
  have h0:=hC
  unfold Cells at h0 ⊢
  rw [← zAG w1 n3,hm,zAG X n3]
  exact h0
 have k2:=k1.set_new (p:=⟨pe,0,none⟩) hpe (.int .i64 E)
 have C2:=C1.set 0 (.int .i64 E)
 have e2:=C2.cell 0
 simp at e2
 have hL:zD9 hd g S s w (.returned (.int .i64 E)) (w1.setCell ⟨pe,0,none⟩ (.int .i64 E)):=by
  refine ⟨by rw [hE],k2,A,?_⟩
  rw [hSt]
  exact ⟨hc.other (Ne.symm n3) 0 _,hl.below (k2.hide hh),Nat.lt_of_lt_of_le hh k2.size⟩
 simp [Leaves,settle,results,Tryz.results125,go_sem,ht,e2]
 exact hL
theorem zNy (g:Nat) (S:BSt) (A:Adr) (s:ByteArray) (hs:s.size < 4294967281) (w:World) (h:StAt hd w g S A) (F:Few S) (hv:Vars w) (h8:8≤g) :
  Calls Tryz.prog 125 #[.pointer (some ⟨g,0,none⟩),.string s] w (zD9 hd g S s w):=by
 have hmf:∀ (fn:Fn) (first cap:Array Value) (w:World),(Instr.makeFunc fn first cap).run Tryz.prog w=.ok (.func fn first cap) w:=fun _ _ _ _ => rfl
 have hg:=h.lt
 have hL0:=h.lists
 have hold0:=h.old
 obtain ⟨R,hR⟩:∃ R,zD9 hd g S s w=R:=⟨_,rfl⟩
 rw [hR]
 go_enter_defers Tryz.func125,Tryz.ntmps125
 go_upto_region 1 with fail
 obtain ⟨W1,hW⟩:∃ x:World,x=(w.alloc (.cells #[.pointer (some ⟨g,0,none⟩)] 157)).alloc (.cells #[.int .i64 0] 59):=⟨_,rfl⟩
 have hb0:Below w.heap.size w (w.alloc (.cells #[.pointer (some ⟨g,0,none⟩)] 157)):=(Below.refl _ _).alloc (Nat.le_refl _) _
 have hb1:Below w.heap.size w W1:=by rw [hW];exact hb0.alloc (by simp) _
 have CP:Cells W1 w.heap.size #[.pointer (some ⟨g,0,none⟩)] 157:=by rw [hW];exact (Cells.new w _ _).below (Joins.below_alloc1 _ _)
 have CE:Cells W1 (w.heap.size + 1) #[.int .i64 0] 59:=by
  rw [hW]
  have:=Cells.new (w.alloc (.cells #[.pointer (some ⟨g,0,none⟩)] 157)) #[.int .i64 0] 59
  rwa [show (w.alloc (.cells #[.pointer (some ⟨g,0,none⟩)] 157)).heap.size=w.heap.size + 1 from by simp] at this
 have z1:W1.heap.size=w.heap.size + 2:=by rw [hW];simp
 rw [← hW]
 clear hW hb0
 replace h:=h.below hb1
 replace hv:=hv.below hb1
 have c0:=CP.cell 0
 simp at c0
 have p0:=h.cells.cell 0
 have p1:=h.cells.cell 1
 have p2:=h.cells.cell 2
 have p3:=h.cells.cell 3
 have p4:=h.cells.cell 4
 have p5:=h.cells.cell 5
 have p6:=h.cells.cell 6
 have p7:=h.cells.cell 7
 have p8:=h.cells.cell 8
 have p9:=h.cells.cell 9
 have p10:=h.cells.cell 10
 have p11:=h.cells.cell 11
 have p12:=h.cells.cell 12
 simp at p0 p1 p2 p3 p4 p5 p6 p7 p8 p9 p10 p11 p12
 go_wp2_with fail
 have nG:g < w.heap.size:=hg
 clear p0 p1 p2 p3 p4 p5 p6 p7 p8 p9 p10 p11 p12
 obtain ⟨W2,hW⟩:∃ x:World,x=W1.alloc (.cells (zAW S A) 57):=⟨_,rfl⟩
 have hb2:Below W1.heap.size W1 W2:=by rw [hW];exact Joins.below_alloc1 _ _
 have CS:Cells W2 (w.heap.size + 2) (zAW S A) 57:=by rw [hW,← z1];exact Cells.new _ _ _
 have z2:W2.heap.size=w.heap.size + 3:=by rw [hW];simp;omega
 rw [← hW]
 clear hW c0
 replace CP:=CP.below hb2
 replace CE:=CE.below hb2
 replace h:=h.below hb2
 replace hv:=hv.below hb2
 replace hb2:=hb1.trans (hb2.mono hb1.size)
 clear hb1
 refine (zL9 s hs W2 hv).mono ?_
 rintro e W3 ⟨rfl,hW⟩
 have hb3:Below W2.heap.size W2 W3:=by rw [hW];exact Joins.below_alloc1 _ _
 have CW:Cells W3 (w.heap.size + 3) ((zB6 s).map Value.string).toArray 9:=by rw [hW,← z2];exact Cells.new _ _ _
 have z3:W3.heap.size=w.heap.size + 4:=by rw [hW];simp;omega
 clear hW
 replace CP:=CP.below hb3
 replace CE:=CE.below hb3
 replace CS:=CS.below hb3
 replace h:=h.below hb3
 replace hv:=hv.below hb3
 replace hb3:=hb2.trans (hb3.mono hb2.size)
 rw [z2]
 clear hb2 z1 z2 W1 W2
 go_upto_region 4 with fail
 have hx0:=CW.cell 0
 obtain ⟨x,r,hwx⟩:∃ x r,zB6 s=x :: r:=by
  have:=zFZ s
  cases hq:zB6 s with
  | nil => rw [hq] at this;simp at this
  | cons x r => exact ⟨x,r,rfl⟩
 rw [hwx] at CW hx0
 simp at hx0
 have hln:Lib.countB s ⟨#[32]⟩=r.length:=by have:=zFZ s;rw [hwx] at this;simp at this;omega
 rw [hln]
 have Hz:=Lib.hid z3
 have HR:=Lib.hid hR
 clear z3 hR
 have Hwx:=Lib.hid hwx
 clear hln hwx
 cases hc:zDp x.data.toList with
 | none =>
  have Hc:=Lib.hid hc
  have hlc:∀ (X:World) (b:Nat),TabM X b zKB→(Instr.lookup 306 (.map (some b)) (.string x) true).run Tryz.prog X=.ok (.tuple #[.agg #[.int .i64 0,.nilFunc],.bool false]) X:=fun X b h => by rw [zJh h,hc];rfl
  have Hlc:=Lib.hid hlc
  clear hc hlc
  go_cut [7,8] from 12 (fun s7 s8 wx => ∃ ba:Nat,s7=.pointer (some ⟨ba,0,none⟩)∧s8=.bool false∧Cells wx ba #[.int .i64 0,.nilFunc] 304∧W3.heap.size≤ba∧Below W3.heap.size W3 wx)
  case first =>
   go_region_held3 (fun w' => w'.cell? ⟨w.heap.size + 3,0,none⟩=some (.string x))
    (first | exact zAA (Below.drew (Below.refl _ _)) hx0 | exact zAA (show Below W3.heap.size W3 _ from (by (repeat (first | exact hBX | exact Below.refl _ _ | refine Below.drew ?_ | refine Below.setCell ?_ (by first | exact hBX.size | exact Nat.le_refl _ | (simp;done) | (have:=hBX.size;simp;omega) | (simp;omega)) _ | refine Below.alloc ?_ (by first | exact hBX.size | exact Nat.le_refl _ | (simp;done) | (have:=hBX.size;simp;omega) | (simp;omega)) _)))) hx0 | fail)
    ((go_at_call 187;refine (zKA _).mono ?_;rintro e X ⟨b,rfl,hb,hT,hB⟩;(first | (have hBX:Below W3.heap.size W3 X:=((Below.drew (Below.refl _ _)).alloc (Nat.le_refl _) _).trans (hB.mono (by simp));have hCX:Cells X W3.heap.size #[.int .i64 0,.nilFunc] 304:=(Cells.new W3.drew #[.int .i64 0,.nilFunc] 304).below hB;have hX0:=hCX.cell 0;have hX1:=hCX.cell 1;have hX2:=hCX.frozen 0;have hX3:=hCX.frozen 1;simp at hX0 hX1) | have hBX:Below W3.heap.size W3 X:=(Below.drew (Below.refl _ _)).trans hB);have hl:=Hlc.out X b hT;have hl2:=fun o => Hlc.out (X.alloc o) b (hT.below (Joins.below_alloc1 X o) hT.lt)))
   all_goals
    go_wp2_with fail
    go_meet
    first
    | exact ⟨_,rfl,rfl,((hCX.set 0 _).set 1 _),Nat.le_refl _,(by (repeat (first | exact hBX | exact Below.refl _ _ | refine Below.drew ?_ | refine Below.setCell ?_ (by first | exact hBX.size | exact Nat.le_refl _ | (simp;done) | (have:=hBX.size;simp;omega) | (simp;omega)) _ | refine Below.alloc ?_ (by first | exact hBX.size | exact Nat.le_refl _ | (simp;done) | (have:=hBX.size;simp;omega) | (simp;omega)) _)))⟩
    | exact ⟨_,rfl,rfl,Cells.new X _ _,hBX.size,(by (repeat (first | exact hBX | exact Below.refl _ _ | refine Below.drew ?_ | refine Below.setCell ?_ (by first | exact hBX.size | exact Nat.le_refl _ | (simp;done) | (have:=hBX.size;simp;omega) | (simp;omega)) _ | refine Below.alloc ?_ (by first | exact hBX.size | exact Nat.le_refl _ | (simp;done) | (have:=hBX.size;simp;omega) | (simp;omega)) _)))⟩
  case rest =>
   obtain ⟨ba,rfl,rfl,CA,hba,hbx⟩:=hcut
   replace CP:=CP.below hbx
   replace CE:=CE.below hbx
   replace CS:=CS.below hbx
   replace h:=h.below hbx
   replace hb3:=hb3.trans (hbx.mono hb3.size)
   have hp:zAa s=none:=zKY Hwx.out Hc.out
   clear Hlc hx0 Hz hbx
   go_wp2_with fail
   go_at_call 188
   refine (zAP 4 _).mono ?_
   rintro e _ ⟨rfl,rfl⟩
   have e:=HR.out
   subst e
   exact zD5 g _ _ _ S A s w wc _ rfl 4 0 (zE8 hp) (zE6 hp) CP CE CS (KeepG.of nG hb3) hL0 h.blk (by omega) (by omega) (by omega) (by omega) hold0
 | some c =>
  have Hc:=Lib.hid hc
  have hlc:∀ (X:World) (b:Nat),TabM X b zKB→(Instr.lookup 306 (.map (some b)) (.string x) true).run Tryz.prog X=.ok (.tuple #[.agg #[.int .i64 c.many,.func (.func c.fn) #[] #[]],.bool true]) X:=fun X b h => by rw [zJh h,hc];rfl
  have Hlc:=Lib.hid hlc
  clear hc hlc
  go_cut [7,8] from 12 (fun s7 s8 wx => ∃ ba:Nat,s7=.pointer (some ⟨ba,0,none⟩)∧s8=.bool true∧Cells wx ba #[.int .i64 c.many,.func (.func c.fn) #[] #[]] 304∧W3.heap.size≤ba∧Below W3.heap.size W3 wx)
  case first =>
   go_region_held3 (fun w' => w'.cell? ⟨w.heap.size + 3,0,none⟩=some (.string x))
    (first | exact zAA (Below.drew (Below.refl _ _)) hx0 | exact zAA (show Below W3.heap.size W3 _ from (by (repeat (first | exact hBX | exact Below.refl _ _ | refine Below.drew ?_ | refine Below.setCell ?_ (by first | exact hBX.size | exact Nat.le_refl _ | (simp;done) | (have:=hBX.size;simp;omega) | (simp;omega)) _ | refine Below.alloc ?_ (by first | exact hBX.size | exact Nat.le_refl _ | (simp;done) | (have:=hBX.size;simp;omega) | (simp;omega)) _)))) hx0 | fail)
    ((go_at_call 187;refine (zKA _).mono ?_;rintro e X ⟨b,rfl,hb,hT,hB⟩;(first | (have hBX:Below W3.heap.size W3 X:=((Below.drew (Below.refl _ _)).alloc (Nat.le_refl _) _).trans (hB.mono (by simp));have hCX:Cells X W3.heap.size #[.int .i64 0,.nilFunc] 304:=(Cells.new W3.drew #[.int .i64 0,.nilFunc] 304).below hB;have hX0:=hCX.cell 0;have hX1:=hCX.cell 1;have hX2:=hCX.frozen 0;have hX3:=hCX.frozen 1;simp at hX0 hX1) | have hBX:Below W3.heap.size W3 X:=(Below.drew (Below.refl _ _)).trans hB);have hl:=Hlc.out X b hT;have hl2:=fun o => Hlc.out (X.alloc o) b (hT.below (Joins.below_alloc1 X o) hT.lt)))
   all_goals
    go_wp2_with fail
    go_meet
    first
    | exact ⟨_,rfl,rfl,((hCX.set 0 _).set 1 _),Nat.le_refl _,(by (repeat (first | exact hBX | exact Below.refl _ _ | refine Below.drew ?_ | refine Below.setCell ?_ (by first | exact hBX.size | exact Nat.le_refl _ | (simp;done) | (have:=hBX.size;simp;omega) | (simp;omega)) _ | refine Below.alloc ?_ (by first | exact hBX.size | exact Nat.le_refl _ | (simp;done) | (have:=hBX.size;simp;omega) | (simp;omega)) _)))⟩
    | exact ⟨_,rfl,rfl,Cells.new X _ _,hBX.size,(by (repeat (first | exact hBX | exact Below.refl _ _ | refine Below.drew ?_ | refine Below.setCell ?_ (by first | exact hBX.size | exact Nat.le_refl _ | (simp;done) | (have:=hBX.size;simp;omega) | (simp;omega)) _ | refine Below.alloc ?_ (by first | exact hBX.size | exact Nat.le_refl _ | (simp;done) | (have:=hBX.size;simp;omega) | (simp;omega)) _)))⟩
  case rest =>
   obtain ⟨ba,rfl,rfl,CA,hba,hbx⟩:=hcut
   replace CP:=CP.below hbx
   replace CE:=CE.below hbx
   replace CS:=CS.below hbx
   replace CW:=CW.below hbx
   replace h:=h.below hbx
   replace hv:=hv.below hbx
   replace hb3:=hb3.trans (hbx.mono hb3.size)
   have z3:=hbx.size
   rw [Hz.out] at z3 hba
   have q0:=CA.cell 0
   simp at q0
   clear Hlc hx0 Hz hbx
   have hmany:=zMQ c
   have hk:=KeepG.of nG hb3
   go_wp2_with fail
   go_at_call 188
   obtain ⟨q,hq⟩:∃ q,((r.length:Int) + 1 == (c.many:Int) + 1)=q:=⟨_,rfl⟩
   rw [hq]
   cases q
   ·refine (zAP 4 _).mono ?_
    rintro e _ ⟨rfl,rfl⟩
    have hp:zAa s=none:=zLt Hwx.out Hc.out (by simp at hq;omega)
    rw [← HR.out]
    exact zD5 g _ _ _ S A s w wc _ rfl 4 0 (zE8 hp) (zE6 hp) CP CE CS hk hL0 h.blk (by omega) (by omega) (by omega) (by omega) hold0
   refine (zA3 4 _).mono ?_
   rintro e _ ⟨rfl,rfl⟩
   have hrl:r.length=c.many:=by simp at hq;omega
   have hr0:¬ r.length=0:=by rw [hrl];cases c <;> decide
   have hr4:r.length≤4:=by rw [hrl];exact c.many_le
   have Hrl:=Lib.hid hrl
   clear hq hmany hrl
   go_wp2_with fail
   go_loopw [9,11,40] (fun nv _ i X => ∃ (k:Nat) (ns:List Int) (ao:Option Addr) (co:Nat),k≤r.length∧i=.int .i64 k∧nv=.slice ao k co∧OwnL 3 1 wc.heap.size X ao co k (ns.map (Value.int .i64))∧Hid ((r.take k).mapM (fun y => numF y.data.toList)=some ns)∧Below wc.heap.size wc X) (fun _ _ i _ => r.length - (intOf i).toNat)
   case atStart => exact ⟨0,[],none,0,Nat.zero_le _,rfl,rfl,OwnL.nil _ _ _ _,Lib.hid rfl,Below.refl _ _⟩
   case round =>
    obtain ⟨k,ns,ao,co,hkr,rfl,rfl,own,Hn,bX⟩:=hrel
    have hP':=CP.below bX
    have hE':=CE.below bX
    have hS':=CS.below bX
    have h':=h.below bX
    have hv':=hv.below bX
    have hg' : g < wc.heap.size:=by omega
    have hk' : KeepG g w wr:=KeepG.of nG (hb3.trans (bX.mono hb3.size))
    by_cases hlt:k < r.length
    ·have hltI:(k:Int) < (r.length:Int):=by omega
     have iw:IntKind.i64.wrap ((k:Int) + 1)=(k:Int) + 1:=IntWalk.i64_in _ (by omega)
     have hsz:=zH7 Hwx.out (List.getElem_mem hlt)
     have hcw:=(CW.below bX).cell (1 + k)
     rw [show (List.map Value.string (x :: r)).toArray[1 + k]?=some (.string r[k]) from by simp [Nat.add_comm 1 k,hlt]] at hcw
     have hfw:=fun v h => zMP (v:=v) hlt Hn.out h
     have hfb:=fun h => zNs (f:=fun y => numF y.data.toList) hlt h
     obtain ⟨y,hy⟩:∃ y,r[k]=y:=⟨_,rfl⟩
     rw [hy] at hcw hsz hfw hfb
     clear hy
     go_wp2_with fail
     go_at_call 189
     refine (zK3 y (by omega) wr hv').mono ?_
     rintro e w1 ⟨bN,⟨v,hnv,rfl⟩ | ⟨hnv,rfl⟩⟩
     ·have Hv:=Lib.hid (hfw v hnv)
      clear hfw hfb hnv
      go_wp2_with (at_builtin;refine zCd Cps.zGM rfl _ _ rfl wc.heap.size ao k co _ rfl (own.kept bN) 1 1 rfl rfl (fun u hu => ?c1) ?c2 ?c3 ?c4 ?_)
      case c1 => simp at hu;subst hu;rfl
      case c2 => have:=c.many_le;have:=Hrl.out;simp [maxLen];omega
      case c3 => have:=c.many_le;have:=Hrl.out;omega
      case c4 => exact Nat.le_trans bX.size bN.size
      intro a' c' w2 own2 bA _
      go_wp2_with fail
      go_round
      case rel => exact ⟨k + 1,ns ++ [v],a',c',by omega,by go_num,rfl,by simpa using own2,Hv,bX.trans ((bN.mono bX.size).trans bA)⟩
      case measure => simp [intOf];omega
     ·have hp:zAa s=none:=by rw [zG3 Hwx.out Hc.out Hrl.out,hfb hnv];rfl
      have hb0:=hb3.trans (bX.mono hb3.size)
      have e:=HR.out
      subst e
      exact zD5 g (w.heap.size + 2) w.heap.size (w.heap.size + 1) S A s w w1 _ rfl 4 0 (zE8 hp) (zE6 hp) (hP'.below bN) (hE'.below bN) (hS'.below bN) (KeepG.of nG (hb0.trans (bN.mono hb0.size))) hL0 (h'.below bN).blk (by omega) (by omega) (by omega) (by omega) hold0
    ·obtain rfl:k=r.length:=by omega
     have pp:=hP'.cell 0
     have qa:=(CA.below bX).cell 1
     simp at pp qa
     rw [List.take_length] at Hn
     have hnl:=own.ints.2
     have act:=zPl c g S A ao co ns (by rw [← hnl];exact Hrl.out) wr h' F (zM6 own hg' (by omega))
     rw [← hnl] at act
     have hp:zAa s=some (c,ns):=by rw [zG3 Hwx.out Hc.out Hrl.out,Hn.out];rfl
     have Hp:=Lib.hid hp
     clear hnl hp
     go_wp2_with fail
     cases c
     all_goals
      go_wp2_with fail
      refine act.mono ?_
      rintro e w2 ⟨kg,⟨h0,rfl,A2,st2⟩ | ⟨h0,rfl,blk⟩⟩
      ·have P2:=hP'.keepG kg (by omega)
       have E2:=hE'.keepG kg (by omega)
       have e0:=E2.cell 0
       have ef:=E2.frozen 0
       simp at e0
       have H0:=Lib.hid h0
       clear h0
       go_wp2
       rw [zKL E2]
       have e:=HR.out
       subst e
       exact zIq g (w.heap.size + 1) _ _ _ S A2 s w w2 _ rfl ((zE7 Hp.out).trans H0.out) E2 (hk'.trans kg) (by rw [zNz Hp.out H0.out];exact st2)
      ·have e:=HR.out
       subst e
       exact zD5 g (w.heap.size + 2) w.heap.size (w.heap.size + 1) S A s w w2 _ rfl _ 0 (zE7 Hp.out) (zMZ Hp.out h0) (hP'.keepG kg (by omega)) (hE'.keepG kg (by omega)) (hS'.keepG kg (by omega)) (hk'.trans kg) hL0 blk (by omega) (by omega) (by omega) (by omega) hold0
end Go.Proofs.YticjeianiahppaaGreatDoor
