/- The session book: contracts of the program and of the laws' helpers, joined (Kd, Kc, Ke, Kf, Kg, Ki). -/
import Derived.Test.YticjeianiahppaaGreatDoorBD
import Derived.Test.YticjeianiahppaaGreatDoorBE
import Derived.Test.YticjeianiahppaaGreatDoorBB
import Derived.Test.YticjeianiahppaaGreatDoorBF
import Derived.WalkLawsBesides
import Derived.Deep.Cut
set_option linter.unusedVariables false
set_option linter.unusedSimpArgs false
set_option linter.unnecessarySimpa false
set_option maxRecDepth 100000
set_option maxHeartbeats 40000000
namespace Go.Proofs.YticjeianiahppaaGreatDoor
open Go.RowKit Go.Flow
structure BSt where
 size:Int
 words:Int
 keys:List (Int × Int × Int)
 days:List Int
 lost:List (Int × Int)
 post:Cps.Post
 journal:List Cps.Ent
 rate:Int
 keeps:Int
 ds:List Pay.Dis
def BSt.begun:BSt:=⟨0,0,[],[],[],⟨[],[],0⟩,[],0,0,[]⟩
def BSt.acc (S:BSt):Pay.Acc:=⟨7,S.rate,S.keeps,S.ds⟩
inductive Cmd where
 | book | key | day | lost | found | send | route | leg | sleep | wait | came | skipped | strike | rate | paid | passed | words
 deriving DecidableEq
def Cmd.many:Cmd→Nat
 | .book => 2 | .key => 3 | .day => 1 | .lost => 2 | .found => 1 | .send => 1 | .route => 3 | .leg => 3 | .sleep => 4 | .wait => 1 | .came => 2 | .skipped => 2 | .strike => 1 | .rate => 2 | .paid => 4 | .passed => 2 | .words => 3
def idxB (n:Int) (len:Nat):Bool:=decide (0≤n) && decide (n≤(len:Int) - 1)
def betB (n lo hi:Int):Bool:=decide (lo≤n) && decide (n≤hi)
def zCJ (lo hi most:Int):Bool:=decide (0≤lo) && decide (lo≤hi) && decide (hi≤most)
def zCQ (S:BSt) (r:Int):List Cps.Leg:=((S.post.routes[r.toNat]?).map (·.legs)).getD []
def zIY (S:BSt) (r k:Int):List (Int × Int):=(((zCQ S r)[k.toNat]?).map (·.asl)).getD []
def zCh (S:BSt) (k:Int):Pay.Dis:=(S.ds[k.toNat]?).getD ⟨0,0,0,[]⟩
def chain:List (Bool × Int)→Int
 | [] => 0
 | (b,e) :: r => if b then chain r else e
def errC (S:BSt):Cmd→List Int→Int
 | .book,[s,w] => chain [(decide (Cph.zA7 s w [(1,0,0)] [0]=0),2)]
 | .key,[m,a,t] => chain [(decide (S.size≠0),8),(decide (Cph.zA7 S.size S.words [(m,a,t)] [0]=0),2),(decide (S.keys.length < 5),3)]
 | .day,[k] => chain [(idxB k S.keys.length,7),(decide (S.days.length < 8),3)]
 | .lost,[k,d] => chain [(idxB k S.keys.length && idxB d S.days.length,7),(decide (S.lost.length < 6),3)]
 | .found,[k] => chain [(idxB k S.lost.length,7)]
 | .send,[h] => chain [(betB h 0 30,2),(decide (S.post.sends.length=0) || decide (S.post.sends.getD (S.post.sends.length - 1) 0 < h),8),(decide (S.post.sends.length < 4),3)]
 | .route,[_,a,b] => chain [(zCJ a b 6,2),(decide (S.post.routes.length < 3),3)]
 | .leg,[r,a,b] => chain [(idxB r S.post.routes.length,7),(zCJ a b 6,2),(decide ((zCQ S r).length < 3),3)]
 | .sleep,[r,l,a,b] => chain [(idxB r S.post.routes.length && idxB l (zCQ S r).length,7),(zCJ a b 30,2),(decide ((zIY S r l).length < 2),3)]
 | .wait,[p] => chain [(betB p 0 30,2)]
 | .came,[n,h] => chain [(idxB n S.post.sends.length && decide (0 < S.post.routes.length),7),(betB h 0 100,2),(decide (S.journal.length < 8),3)]
 | .skipped,[n,h] => chain [(idxB n S.post.sends.length && decide (0 < S.post.routes.length),7),(betB h 0 100,2),(decide (S.journal.length < 8),3)]
 | .strike,[k] => chain [(idxB k S.journal.length,7)]
 | .rate,[r,k] => chain [(decide (Pay.zEW ⟨7,r,k,[]⟩=0),2)]
 | .paid,[p,a,b,s] => chain [(decide (Pay.zEW ⟨7,0,0,[⟨p,a,b,[s]⟩]⟩=0),2),(decide (S.ds.length < 6),3)]
 | .passed,[d,s] => chain [(idxB d S.ds.length && betB s 0 6,7),(!(zCh S d).passed.contains s,6),(decide ((zCh S d).passed.length < 5),3)]
 | .words,[d,a,b] => chain [(idxB d S.ds.length,7),(decide ((zCh S d).lo≤a) && decide (a≤b) && decide (b≤(zCh S d).hi),2)]
 | _,_ => 4
def zDn {α:Type} (l:List α) (k:Int):List α:=l.take k.toNat ++ l.drop (k.toNat + 1)
def putAt {α:Type} (l:List α) (k:Int) (f:α→α):List α:=l.modify k.toNat f
def nxtC (S:BSt):Cmd→List Int→BSt
 | .book,[s,w] => { S with size:=s,words:=w,keys:=[],days:=[],lost:=[] }
 | .key,[m,a,t] => { S with keys:=S.keys ++ [(m,a,t)] }
 | .day,[k] => { S with days:=S.days ++ [k] }
 | .lost,[k,d] => { S with lost:=S.lost ++ [(k,d)] }
 | .found,[k] => { S with lost:=zDn S.lost k }
 | .send,[h] => { S with post:={ S.post with sends:=S.post.sends ++ [h] } }
 | .route,[y,a,b] => { S with post:={ S.post with routes:=S.post.routes ++ [⟨[⟨a,b,[]⟩],decide (y≠0)⟩] } }
 | .leg,[r,a,b] => { S with post:={ S.post with routes:=putAt S.post.routes r fun x => ⟨x.legs ++ [⟨a,b,[]⟩],x.lossy⟩ } }
 | .sleep,[r,l,a,b] => { S with post:={ S.post with routes:=putAt S.post.routes r fun x => ⟨putAt x.legs l fun y => ⟨y.lo,y.hi,y.asl ++ [(a,b)]⟩,x.lossy⟩ } }
 | .wait,[p] => { S with post:={ S.post with pat:=p } }
 | .came,[n,h] => { S with journal:=S.journal ++ [⟨n,h,false⟩] }
 | .skipped,[n,h] => { S with journal:=S.journal ++ [⟨n,h,true⟩] }
 | .strike,[k] => { S with journal:=zDn S.journal k }
 | .rate,[r,k] => { S with rate:=r,keeps:=k }
 | .paid,[p,a,b,s] => { S with ds:=S.ds ++ [⟨p,a,b,[s]⟩] }
 | .passed,[d,s] => { S with ds:=putAt S.ds d fun x => ⟨x.payer,x.lo,x.hi,x.passed ++ [s]⟩ }
 | .words,[d,a,b] => { S with ds:=putAt S.ds d fun x => ⟨x.payer,a,b,x.passed⟩ }
 | _,_ => S
def Cmd.asks:Cmd→Bool
 | .route | .leg | .sleep | .wait | .came | .skipped => true
 | _ => false
def zBB (S:BSt):Bool:=decide (S.journal=[]) || decide (Cps.zCa S.post S.journal=0)
def errL (S:BSt) (c:Cmd) (n:List Int):Int:=if errC S c n=0 then (if c.asks && !zBB (nxtC S c n) then 9 else 0) else errC S c n
structure Few (S:BSt):Prop where
 keys:S.keys.length≤5
 days:S.days.length≤8
 lost:S.lost.length≤6
 sends:S.post.sends.length≤4
 routes:S.post.routes.length≤3
 legs:∀ r ∈ S.post.routes,r.legs.length≤3
 asl:∀ r ∈ S.post.routes,∀ l ∈ r.legs,l.asl.length≤2
 journal:S.journal.length≤8
 ds:S.ds.length≤6
 passed:∀ d ∈ S.ds,d.passed.length≤5
theorem Few.begun:Few BSt.begun:=by
 constructor <;> simp [BSt.begun]
theorem zHS {l:List (Bool × Int)} (hl:∀ x ∈ l,x.2≠0) (h:chain l=0):∀ x ∈ l,x.1=true:=by
 induction l with
 | nil => intro x hx;cases hx
 | cons y r ih =>
  obtain ⟨b,e⟩:=y
  cases b
  ·exact absurd h (hl _ List.mem_cons_self)
  ·intro x hx
   rcases List.mem_cons.1 hx with rfl | hx
   ·rfl
   ·exact ih (fun x hx => hl x (List.mem_cons_of_mem _ hx)) h x hx
theorem zBs {α:Type} (l:List α) (k:Int) (f:α→α):(putAt l k f).length=l.length:=List.length_modify _ _ _
theorem zBr {α:Type} {l:List α} {k:Int} {f:α→α} {x:α} (h:x ∈ putAt l k f):x ∈ l∨∃ y,l[k.toNat]?=some y∧x=f y:=by
 unfold putAt at h
 obtain ⟨i,hi⟩:=List.mem_iff_getElem?.1 h
 rw [List.getElem?_modify] at hi
 cases h0:l[i]? with
 | none => rw [h0] at hi;simp at hi
 | some y =>
  rw [h0] at hi
  simp only [Option.map_eq_map,Option.map_some,Option.some.injEq] at hi
  split at hi
  ·rename_i e
   exact .inr ⟨y,by rw [e];exact h0,hi.symm⟩
  ·exact .inl (by rw [← hi];exact List.mem_of_getElem? h0)
theorem zFy {α:Type} (l:List α) (k:Int):(zDn l k).length≤l.length:=by
 unfold zDn
 rw [List.length_append,List.length_take,List.length_drop];omega
theorem Few.nxt {S:BSt} (F:Few S) (c:Cmd) (n:List Int) (h:errC S c n=0):Few (nxtC S c n):=by
 obtain ⟨f1,f2,f3,f4,f5,f6,f7,f8,f9,f10⟩:=F
 have F:Few S:=⟨f1,f2,f3,f4,f5,f6,f7,f8,f9,f10⟩
 cases c
 all_goals
  rcases n with _ | ⟨n0,_ | ⟨n1,_ | ⟨n2,_ | ⟨n3,_ | ⟨n4,n⟩⟩⟩⟩⟩
  all_goals first | exact F | skip
 case book.cons.cons.nil => exact ⟨by simp [nxtC],by simp [nxtC],by simp [nxtC],f4,f5,f6,f7,f8,f9,f10⟩
 case key.cons.cons.cons.nil =>
  simp [errC,chain] at h
  exact ⟨by simp [nxtC];omega,f2,f3,f4,f5,f6,f7,f8,f9,f10⟩
 case day.cons.nil =>
  simp [errC,chain] at h
  exact ⟨f1,by simp [nxtC];omega,f3,f4,f5,f6,f7,f8,f9,f10⟩
 case lost.cons.cons.nil =>
  simp [errC,chain] at h
  exact ⟨f1,f2,by simp [nxtC];omega,f4,f5,f6,f7,f8,f9,f10⟩
 case found.cons.nil => exact ⟨f1,f2,Nat.le_trans (zFy _ _) f3,f4,f5,f6,f7,f8,f9,f10⟩
 case send.cons.nil =>
  simp [errC,chain] at h
  exact ⟨f1,f2,f3,by simp [nxtC];omega,f5,f6,f7,f8,f9,f10⟩
 case route.cons.cons.cons.nil =>
  simp [errC,chain] at h
  refine ⟨f1,f2,f3,f4,by simp [nxtC];omega,fun r hr => ?_,fun r hr => ?_,f8,f9,f10⟩
  all_goals
   rcases List.mem_append.1 hr with hr | hr
   first | exact f6 r hr | exact f7 r hr
   simp at hr
   subst hr
   simp
 case leg.cons.cons.cons.nil =>
  have h0:=h
  refine ⟨f1,f2,f3,f4,by rw [nxtC,zBs];exact f5,fun r hr => ?_,fun r hr => ?_,f8,f9,f10⟩
  ·rcases zBr hr with hr | ⟨y,hy,rfl⟩
   ·exact f6 r hr
   ·have:=zHS (l:=[(idxB n0 S.post.routes.length,7),(zCJ n1 n2 6,2),(decide ((zCQ S n0).length < 3),3)]) (by simp) h0 _ (List.mem_cons_of_mem _ (List.mem_cons_of_mem _ List.mem_cons_self))
    rw [zCQ,hy] at this
    simp at this
    simp;omega
  ·rcases zBr hr with hr | ⟨y,hy,rfl⟩
   ·exact f7 r hr
   ·intro l hl
    rcases List.mem_append.1 hl with hl | hl
    ·exact f7 y (List.mem_of_getElem? hy) l hl
    ·simp at hl;subst hl;simp
 case sleep.cons.cons.cons.cons.nil =>
  have h0:=h
  refine ⟨f1,f2,f3,f4,by rw [nxtC,zBs];exact f5,fun r hr => ?_,fun r hr => ?_,f8,f9,f10⟩
  ·rcases zBr hr with hr | ⟨y,hy,rfl⟩
   ·exact f6 r hr
   ·simp only [zBs];exact f6 y (List.mem_of_getElem? hy)
  ·rcases zBr hr with hr | ⟨y,hy,rfl⟩
   ·exact f7 r hr
   ·intro l hl
    rcases zBr hl with hl | ⟨z,hz,rfl⟩
    ·exact f7 y (List.mem_of_getElem? hy) l hl
    ·have:=zHS (l:=[(idxB n0 S.post.routes.length && idxB n1 (zCQ S n0).length,7),(zCJ n2 n3 30,2),(decide ((zIY S n0 n1).length < 2),3)]) (by simp) h0 _ (List.mem_cons_of_mem _ (List.mem_cons_of_mem _ List.mem_cons_self))
     rw [zIY,zCQ,hy] at this
     simp only [Option.map_some,Option.getD_some,hz,decide_eq_true_eq] at this
     simp;omega
 case wait.cons.nil => exact ⟨f1,f2,f3,f4,f5,f6,f7,f8,f9,f10⟩
 case came.cons.cons.nil =>
  simp [errC,chain] at h
  exact ⟨f1,f2,f3,f4,f5,f6,f7,by simp [nxtC];omega,f9,f10⟩
 case skipped.cons.cons.nil =>
  simp [errC,chain] at h
  exact ⟨f1,f2,f3,f4,f5,f6,f7,by simp [nxtC];omega,f9,f10⟩
 case strike.cons.nil => exact ⟨f1,f2,f3,f4,f5,f6,f7,Nat.le_trans (zFy _ _) f8,f9,f10⟩
 case rate.cons.cons.nil => exact ⟨f1,f2,f3,f4,f5,f6,f7,f8,f9,f10⟩
 case paid.cons.cons.cons.cons.nil =>
  simp [errC,chain] at h
  refine ⟨f1,f2,f3,f4,f5,f6,f7,f8,by simp [nxtC];omega,fun d hd => ?_⟩
  rcases List.mem_append.1 hd with hd | hd
  ·exact f10 d hd
  ·simp at hd;subst hd;simp
 case passed.cons.cons.nil =>
  have h0:=h
  refine ⟨f1,f2,f3,f4,f5,f6,f7,f8,by rw [nxtC,zBs];exact f9,fun d hd => ?_⟩
  rcases zBr hd with hd | ⟨y,hy,rfl⟩
  ·exact f10 d hd
  ·have:=zHS (l:=[(idxB n0 S.ds.length && betB n1 0 6,7),(!(zCh S n0).passed.contains n1,6),(decide ((zCh S n0).passed.length < 5),3)]) (by simp) h0 _ (List.mem_cons_of_mem _ (List.mem_cons_of_mem _ List.mem_cons_self))
   rw [zCh,hy] at this
   simp at this
   simp;omega
 case words.cons.cons.cons.nil =>
  refine ⟨f1,f2,f3,f4,f5,f6,f7,f8,by rw [nxtC,zBs];exact f9,fun d hd => ?_⟩
  rcases zBr hd with hd | ⟨y,hy,rfl⟩
  ·exact f10 d hd
  ·exact f10 y (List.mem_of_getElem? hy)
abbrev refusal (e:Int):Ending:=.panicked [{ v:=.iface 300 (.int .i64 e),recovered:=false }]
theorem zA3 (e:Int) (w:World):Calls Tryz.prog 188 #[.bool true,.int .i64 e] w fun en w' => en=.returned (.tuple #[])∧w=w':=by
 go_enter Tryz.func188,Tryz.ntmps188
 go_wp2
 exact bodyPost_end (results_none rfl _ _ _) rfl ⟨rfl,rfl⟩
theorem zAP (e:Int) (w:World):Calls Tryz.prog 188 #[.bool false,.int .i64 e] w fun en w' => en=refusal e∧w=w':=by
 go_enter Tryz.func188,Tryz.ntmps188
 go_wp2
 exact ⟨rfl,rfl,rfl⟩
theorem zA6 (n lo hi:Int) (r:Bool) (hr:Hid ((decide (lo≤n) && decide (n≤hi))=r)) (w:World):Calls Tryz.prog 181 #[.int .i64 n,.int .i64 lo,.int .i64 hi] w fun e w' => e=.returned (.bool r)∧w=w':=by
 rw [← hr.out]
 clear hr
 by_cases h1:lo≤n
 ·by_cases h2:n≤hi
  all_goals
   go_enter Tryz.func181,Tryz.ntmps181
   go_wp2
   go_ret
   exact ⟨by simp [h1,h2],rfl⟩
 ·go_enter Tryz.func181,Tryz.ntmps181
  go_wp2
  go_ret
  have h2:decide (lo≤n)=false:=by simpa using h1
  exact ⟨by rw [h2];rfl,rfl⟩
theorem zMV {w:World} {b:Nat} {v0 v1:Value} (h:Cells w b #[v0,v1] 70) :
  (loadVar 70 ⟨b,0,none⟩).run Tryz.prog w=.ok (.agg #[v0,v1]) w:=by
 have hi:=Tryz.isAgg70
 have hs:=Tryz.sizeOf70
 have k0:=h.cell 0
 have k1:=h.cell 1
 simp at k0 k1
 unfold loadVar
 go_simp
theorem zId (lo hi most:Int) (h:zCJ lo hi most=true) (w:World):Calls Tryz.prog 295 #[.int .i64 lo,.int .i64 hi,.int .i64 most] w fun e w' => e=.returned (.agg #[.int .i64 lo,.int .i64 hi])∧Below w.heap.size w w':=by
 simp only [zCJ,Bool.and_eq_true,decide_eq_true_eq] at h
 obtain ⟨⟨h1,h2⟩,h3⟩:=h
 go_enter Tryz.func295,Tryz.ntmps295
 go_wp2_with fail
 go_at_call 188
 refine (zA3 2 _).mono ?_
 rintro e _ ⟨rfl,rfl⟩
 go_wp2
 exact bodyPost_ret (zBR rfl rfl (zMV (Cells.new _ _ _))) rfl ⟨rfl,(Below.refl _ _).alloc (Nat.le_refl _) _⟩
theorem zGn (lo hi most:Int) (h:zCJ lo hi most=false) (w:World):Calls Tryz.prog 295 #[.int .i64 lo,.int .i64 hi,.int .i64 most] w fun e w' => e=refusal 2∧Below w.heap.size w w':=by
 have hb:Below w.heap.size w (w.alloc (.cells #[.int .i64 0,.int .i64 0] 70)):=(Below.refl _ _).alloc (Nat.le_refl _) _
 by_cases h1:0≤lo
 ·by_cases h2:lo≤hi
  ·have h3:¬ hi≤most:=fun h3 => by simp [zCJ,h1,h2,h3] at h
   go_enter Tryz.func295,Tryz.ntmps295
   go_wp2_with fail
   go_at_call 188
   refine (zAP 2 _).mono ?_
   rintro e _ ⟨rfl,rfl⟩
   exact ⟨rfl,rfl,hb⟩
  ·go_enter Tryz.func295,Tryz.ntmps295
   go_wp2_with fail
   go_at_call 188
   refine (zAP 2 _).mono ?_
   rintro e _ ⟨rfl,rfl⟩
   exact ⟨rfl,rfl,hb⟩
 ·go_enter Tryz.func295,Tryz.ntmps295
  go_wp2_with fail
  go_at_call 188
  refine (zAP 2 _).mono ?_
  rintro e _ ⟨rfl,rfl⟩
  exact ⟨rfl,rfl,hb⟩
def zAY {α:Type} (size:Nat) (R:World→α→List Value→Prop) (w:World) (vs:List Value) (l:List α):Prop :=
 vs.length=l.length * size∧∀ k (h:k < l.length),R w l[k] ((vs.drop (k * size)).take size)
def zAI {α:Type} (size:Nat) (R:World→α→List Value→Prop) (w:World) (a:Option Addr) (l:List α):Prop :=
 ∃ vs,zAY size R w vs l∧SrcAt w a vs
theorem zAv {vs:List Value} {a size j:Nat} (hj:j < size):((vs.drop a).take size)[j]?=vs[a + j]?:=by
 rw [List.getElem?_take,if_pos hj,List.getElem?_drop]
theorem zNj {size n:Nat} {vs cs:List Value} (hl:vs.length=n * size) {k:Nat} (hk:k < n) (h:(vs.drop (k * size)).take size=cs):cs.length=size:=by
 have:(k + 1) * size≤n * size:=Nat.mul_le_mul_right _ hk
 rw [Nat.add_mul,Nat.one_mul] at this
 rw [← h,List.length_take,List.length_drop];omega
theorem zFl {α:Type} {size:Nat} (hs:0 < size) {R:World→α→List Value→Prop} {w:World} {a:Option Addr} {l:List α}
  (h:∀ k (hk:k < l.length),∃ cs,cs.length=size∧R w l[k] cs∧∀ j u,cs[j]?=some u→∃ b off,a=some ⟨b,off,none⟩∧w.cell? ⟨b,off + (k * size + j),none⟩=some u):zAI size R w a l:=by
 have each:∀ k,∃ cs:List Value,∀ hk:k < l.length,cs.length=size∧R w l[k] cs∧∀ j u,cs[j]?=some u→∃ b off,a=some ⟨b,off,none⟩∧w.cell? ⟨b,off + (k * size + j),none⟩=some u:=fun k => by
  by_cases hk:k < l.length
  ·obtain ⟨cs,hc⟩:=h k hk
   exact ⟨cs,fun _ => hc⟩
  ·exact ⟨[],fun e => absurd e hk⟩
 obtain ⟨f,hf⟩:=Classical.axiomOfChoice each
 have hget:∀ i,i < l.length * size→((List.range (l.length * size)).map fun i => (f (i / size)).getD (i % size) undef)[i]?=some ((f (i / size)).getD (i % size) undef):=fun i hi => by
  simp [hi]
 have hdiv:∀ k j,k < l.length→j < size→k * size + j < l.length * size∧(k * size + j) / size=k∧(k * size + j) % size=j:=fun k j hk hj => by
  have:(k + 1) * size≤l.length * size:=Nat.mul_le_mul_right _ hk
  rw [Nat.add_mul,Nat.one_mul] at this
  refine ⟨by omega,?_,?_⟩
  ·rw [Nat.mul_comm,Nat.mul_add_div hs,Nat.div_eq_of_lt hj,Nat.add_zero]
  ·rw [Nat.mul_comm,Nat.mul_add_mod,Nat.mod_eq_of_lt hj]
 refine ⟨(List.range (l.length * size)).map fun i => (f (i / size)).getD (i % size) undef,⟨by simp,fun k hk => ?_⟩,fun i u hu => ?_⟩
 ·have e:(((List.range (l.length * size)).map fun i => (f (i / size)).getD (i % size) undef).drop (k * size)).take size=f k:=by
   apply List.ext_getElem?
   intro j
   by_cases hj:j < size
   ·rw [zAv hj]
    obtain ⟨h1,h2,h3⟩:=hdiv k j hk hj
    rw [hget _ h1,h2,h3,List.getD_eq_getElem?_getD,List.getElem?_eq_getElem (by rw [(hf k hk).1];exact hj)]
    rfl
   ·rw [List.getElem?_eq_none (by rw [List.length_take];omega),List.getElem?_eq_none (by rw [(hf k hk).1];omega)]
  rw [e]
  exact (hf k hk).2.1
 ·have hi:i < l.length * size:=by
   have:=(List.getElem?_eq_some_iff.1 hu).1
   simpa using this
  have hk:i / size < l.length:=Nat.div_lt_of_lt_mul (by rwa [Nat.mul_comm] at hi)
  have hm:i % size < size:=Nat.mod_lt _ hs
  rw [hget i hi] at hu
  obtain ⟨h1,_,h3⟩:=hf _ hk
  rw [List.getD_eq_getElem?_getD,List.getElem?_eq_getElem (by rw [h1];exact hm)] at hu
  obtain ⟨b,off,ha,hc⟩:=h3 (i % size) u (by rw [List.getElem?_eq_getElem (by rw [h1];exact hm)];simpa using hu)
  refine ⟨b,off,ha,?_⟩
  rw [show i / size * size + i % size=i by rw [Nat.mul_comm];exact Nat.div_add_mod i size] at hc
  exact hc
theorem zAI.cell {α:Type} {size:Nat} {R:World→α→List Value→Prop} {w:World} {a:Option Addr} {l:List α} (h:zAI size R w a l) {k:Nat} (hk:k < l.length) (hs:0 < size) :
  ∃ b off cs,a=some ⟨b,off,none⟩∧b < w.heap.size∧cs.length=size∧R w l[k] cs∧∀ j u,cs[j]?=some u→w.cell? ⟨b,off + k * size + j,none⟩=some u:=by
 obtain ⟨vs,⟨hl,hR⟩,hsrc⟩:=h
 have hcl:=zNj hl hk rfl
 obtain ⟨u,hu⟩:∃ u,((vs.drop (k * size)).take size)[0]?=some u:=⟨_,List.getElem?_eq_getElem (by omega)⟩
 rw [zAv hs] at hu
 obtain ⟨b,off,rfl,hc⟩:=hsrc _ u hu
 refine ⟨b,off,_,rfl,zBl hc,hcl,hR k hk,fun j u hu => ?_⟩
 have hj:j < size:=by have:=(List.getElem?_eq_some_iff.1 hu).1;omega
 rw [zAv hj] at hu
 obtain ⟨b',off',e,hc⟩:=hsrc _ u hu
 simp only [Option.some.injEq,Addr.mk.injEq,and_true] at e
 obtain ⟨rfl,rfl⟩:=e
 rw [Nat.add_assoc];exact hc
def zHY {α:Type} (R:World→α→List Value→Prop):Prop:=∀ w w' x cs,R w x cs→Below w.heap.size w w'→R w' x cs
def zI5 {α:Type} (R:World→α→List Value→Prop):Prop:=∀ hd g w x cs,g < w.heap.size→hd < w.heap.size→R (mask hd g w) x cs→R w x cs
section
variable {α:Type} {size:Nat} {R:World→α→List Value→Prop} {w w' : World} {vs:List Value} {l:List α}
theorem zAY.below (hR:zHY R) (h:zAY size R w vs l) (hb:Below w.heap.size w w'):zAY size R w' vs l:=⟨h.1,fun k hk => hR _ _ _ _ (h.2 k hk) hb⟩
theorem zAI.below (hR:zHY R) {a:Option Addr} (h:zAI size R w a l) (hb:Below w.heap.size w w'):zAI size R w' a l :=
 let ⟨vs,h1,h2⟩:=h
 ⟨vs,h1.below hR hb,zAO h2 hb⟩
theorem zAI.unmask (hR:zI5 R) {hd g:Nat} (hg:g < w.heap.size) (hh:hd < w.heap.size) {a:Option Addr} (h:zAI size R (mask hd g w) a l):zAI size R w a l :=
 let ⟨vs,h1,h2⟩:=h
 ⟨vs,⟨h1.1,fun k hk => hR _ _ _ _ _ hg hh (h1.2 k hk)⟩,zAh hg hh h2⟩
theorem zAI.nil (a:Option Addr):zAI size R w a ([]:List α):=⟨[],⟨by simp,fun k h => absurd h (Nat.not_lt_zero k)⟩,fun j u h => by simp at h⟩
theorem zAI.none (h:zAI size R w none l) (hs:0 < size):l=[]:=by
 cases l with
 | nil => rfl
 | cons x r =>
  obtain ⟨b,off,_,e,_⟩:=h.cell (k:=0) (by simp) hs
  cases e
theorem zAY.snoc (h:zAY size R w vs l) {x:α} {cs:List Value} (hc:R w x cs) (hl:cs.length=size):zAY size R w (vs ++ cs) (l ++ [x]):=by
 refine ⟨by rw [List.length_append,h.1,hl,List.length_append,Nat.add_mul];simp,fun k hk => ?_⟩
 rw [List.length_append,List.length_singleton] at hk
 have hv:=h.1
 by_cases hkl:k < l.length
 ·have:(k + 1) * size≤l.length * size:=Nat.mul_le_mul_right _ hkl
  rw [Nat.add_mul,Nat.one_mul] at this
  rw [List.getElem_append_left hkl,List.drop_append_of_le_length (by omega),List.take_append_of_le_length (by rw [List.length_drop];omega)]
  exact h.2 k hkl
 ·obtain rfl:k=l.length:=by omega
  rw [List.getElem_append_right (Nat.le_refl _),List.drop_left' hv,List.take_of_length_le (by omega)]
  simpa using hc
theorem zAY.cut (h:zAY size R w vs l) {i:Nat} (hi:i < l.length):zAY size R w (vs.take (i * size) ++ vs.drop ((i + 1) * size)) (l.take i ++ l.drop (i + 1)):=by
 have hv:=h.1
 have h1:(i + 1) * size≤l.length * size:=Nat.mul_le_mul_right _ hi
 have h2:i * size≤l.length * size:=Nat.mul_le_mul_right _ (Nat.le_of_lt hi)
 have hlt:(vs.take (i * size)).length=i * size:=by rw [List.length_take];omega
 have hll:(l.take i).length=i:=by rw [List.length_take];omega
 refine ⟨?_,fun k hk => ?_⟩
 ·have e3:l.length * size=(i + 1) * size + (l.length - (i + 1)) * size:=by rw [← Nat.add_mul];congr 1;omega
  rw [List.length_append,hlt,List.length_drop,hv,List.length_append,hll,List.length_drop,Nat.add_mul i (l.length - (i + 1)) size,e3];omega
 ·rw [List.length_append,hll,List.length_drop] at hk
  by_cases hki:k < i
  ·have h3:(k + 1) * size≤i * size:=Nat.mul_le_mul_right _ hki
   rw [Nat.add_mul,Nat.one_mul] at h3
   rw [List.getElem_append_left (by omega),List.getElem_take,List.drop_append_of_le_length (by omega),List.take_append_of_le_length (by rw [List.length_drop];omega),List.drop_take,List.take_take,Nat.min_eq_left (by omega)]
   exact h.2 k (by omega)
  ·obtain ⟨d,rfl⟩:∃ d,k=i + d:=⟨k - i,by omega⟩
   have e:(vs.take (i * size) ++ vs.drop ((i + 1) * size)).drop ((i + d) * size)=vs.drop ((i + 1 + d) * size):=by
    rw [Nat.add_mul,← List.drop_drop,List.drop_left' hlt,List.drop_drop,← Nat.add_mul]
   have e2:(l.take i ++ l.drop (i + 1))[i + d]'(by rw [List.length_append,hll,List.length_drop];omega)=l[i + 1 + d]'(by omega):=by
    rw [List.getElem_append_right (by omega),List.getElem_drop]
    congr 1;omega
   rw [e,e2]
   exact h.2 (i + 1 + d) (by omega)
theorem zAY.put (h:zAY size R w vs l) {vs' : List Value} {i:Nat} {f:α→α} (hl:vs'.length=vs.length) (ho:∀ j,(j < i * size∨(i + 1) * size≤j)→vs'[j]?=vs[j]?) (hi:∀ hk:i < l.length,R w (f l[i]) ((vs'.drop (i * size)).take size)):zAY size R w vs' (l.modify i f):=by
 refine ⟨by rw [hl,h.1,List.length_modify],fun k hk => ?_⟩
 rw [List.length_modify] at hk
 by_cases e:i=k
 ·subst e
  rw [List.getElem_modify,if_pos rfl]
  exact hi hk
 ·rw [List.getElem_modify,if_neg e]
  have:(vs'.drop (k * size)).take size=(vs.drop (k * size)).take size:=by
   apply List.ext_getElem?
   intro j
   by_cases hj:j < size
   ·rw [zAv hj,zAv hj]
    apply ho
    rcases Nat.lt_or_gt_of_ne e with h1 | h1
    ·right
     have:=Nat.mul_le_mul_right size (show i + 1≤k from h1)
     omega
    ·left
     have:=Nat.mul_le_mul_right size (show k + 1≤i from h1)
     rw [Nat.add_mul,Nat.one_mul] at this
     omega
   ·rw [List.getElem?_eq_none (by rw [List.length_take];omega),List.getElem?_eq_none (by rw [List.length_take];omega)]
  rw [this]
  exact h.2 k hk
theorem zAY.one (h1:∀ w x cs,R w x cs→∀ u ∈ cs,u.oneCell'=true) (h:zAY size R w vs l) (hs:0 < size):∀ u ∈ vs,u.oneCell'=true:=fun u hu => by
 obtain ⟨i,hi,rfl⟩:=List.getElem_of_mem hu
 have hv:=h.1
 have hk:i / size < l.length:=Nat.div_lt_of_lt_mul (by rw [Nat.mul_comm];omega)
 refine h1 w _ _ (h.2 _ hk) _ (List.mem_of_getElem? (i:=i % size) ?_)
 rw [zAv (Nat.mod_lt _ hs),Nat.mul_comm,Nat.div_add_mod,List.getElem?_eq_getElem hi]
theorem zAI.own {E:TypeId} {base c n:Nat} {a:Option Addr} (h:OwnL E size base w a c n vs) (hr:zAY size R w vs l):zAI size R w a l:=⟨vs,hr,SrcAt.own h⟩
end
theorem zEV {w:World} {a b:Nat} {c1 c2:Array Value} {T1 T2:TypeId} (h1:Cells w a c1 T1) (h2:Cells w b c2 T2) (h:T1≠T2):a≠b:=fun e => by
 subst e
 have:=(show w.heap[a]?=_ from h1).symm.trans h2
 simp at this
 exact h this.2
theorem zBY {E:TypeId} {size base:Nat} {w:World} {c n:Nat} {xs:List Value} (h:OwnL E size base w none c n xs):c=0:=by
 rcases h.2 with ⟨h1,_⟩ | ⟨g',cap,cur,hv,_⟩
 ·simp at h1;exact h1.2
 ·cases hv
theorem OwnL.mask {E:TypeId} {size base hd g:Nat} {w:World} {a:Option Addr} {c n:Nat} {xs:List Value} (h:OwnL E size base w a c n xs) (hg:g < base) (hb:hd < base):OwnL E size base (mask hd g w) a c n xs:=by
 refine ⟨h.1,?_⟩
 rcases h.2 with h1 | ⟨g',cap,cur,hv,hbg,hh,hr⟩
 ·exact .inl h1
 ·exact .inr ⟨g',cap,cur,hv,hbg,by rw [zB4 w (by omega) (by omega)];exact hh,hr⟩
theorem zAe {b off b' off' : Nat} (h:(some ⟨b',off',none⟩:Option Addr)=some ⟨b,off,none⟩):b'=b∧off'=off:=by
 simp only [Option.some.injEq,Addr.mk.injEq,and_true] at h
 exact h
def RI (_:World) (x:Int) (cs:List Value):Prop:=cs=[.int .i64 x]
theorem zH9:zHY RI:=fun _ _ _ _ h _ => h
theorem zOt:zI5 RI:=fun _ _ _ _ _ _ _ h => h
theorem oneI:∀ w x cs,RI w x cs→∀ u ∈ cs,u.oneCell'=true:=by rintro _ x _ rfl u hu;simp at hu;subst hu;rfl
theorem zNx {w:World} {a:Option Addr} {l:List Int} (h:IntsAt w a l):zAI 1 RI w a l:=zFl (by omega) fun k hk => by
 obtain ⟨b,off,rfl,hb,h0⟩:=h k hk
 refine ⟨_,?_,rfl,fun j u hu => ⟨b,off,rfl,?_⟩⟩
 ·rfl
 ·match j,hu with
  | 0,hu => simp only [zzJ,zzI,Option.some.injEq] at hu;subst hu;rw [List.getD_eq_getElem?_getD,List.getElem?_eq_getElem hk] at h0;simpa using h0
  | j + 1,hu => simp at hu
theorem zAI.atI {w:World} {a:Option Addr} {l:List Int} (h:zAI 1 RI w a l):IntsAt w a l:=fun k hk => by
 obtain ⟨b,off,cs,ha,hb,hl,rfl,hc⟩:=h.cell hk (by omega)
 exact ⟨b,off,ha,hb,by have:=hc 0 _ rfl;rw [List.getD_eq_getElem?_getD,List.getElem?_eq_getElem hk];simpa using this⟩
def RP (_:World) (x:(Int × Int)) (cs:List Value):Prop:=cs=[.int .i64 x.1,.int .i64 x.2]
theorem zJ3:zHY RP:=fun _ _ _ _ h _ => h
theorem zQR:zI5 RP:=fun _ _ _ _ _ _ _ h => h
theorem oneP:∀ w x cs,RP w x cs→∀ u ∈ cs,u.oneCell'=true:=by rintro _ x _ rfl u hu;simp at hu;rcases hu with rfl | rfl <;> rfl
theorem zNw {w:World} {a:Option Addr} {l:List (Int × Int)} (h:zAX w a l):zAI 2 RP w a l:=zFl (by omega) fun k hk => by
 obtain ⟨b,off,rfl,hb,h0,h1⟩:=h k hk
 refine ⟨_,?_,rfl,fun j u hu => ⟨b,off,rfl,?_⟩⟩
 ·rfl
 ·match j,hu with
  | 0,hu => simp only [zzJ,zzI,Option.some.injEq] at hu;subst hu;simpa [Nat.add_assoc] using h0
  | 1,hu => simp only [zzJ,zzI,Option.some.injEq] at hu;subst hu;simpa [Nat.add_assoc] using h1
  | j + 2,hu => simp at hu
theorem zAI.atP {w:World} {a:Option Addr} {l:List (Int × Int)} (h:zAI 2 RP w a l):zAX w a l:=fun k hk => by
 obtain ⟨b,off,cs,ha,hb,hl,rfl,hc⟩:=h.cell hk (by omega)
 exact ⟨b,off,ha,hb,hc 0 _ rfl,hc 1 _ rfl⟩
def RK (_:World) (x:(Int × Int × Int)) (cs:List Value):Prop:=cs=[.int .i64 x.1,.int .i64 x.2.1,.int .i64 x.2.2]
theorem zOo:zHY RK:=fun _ _ _ _ h _ => h
theorem zQT:zI5 RK:=fun _ _ _ _ _ _ _ h => h
theorem oneK:∀ w x cs,RK w x cs→∀ u ∈ cs,u.oneCell'=true:=by rintro _ x _ rfl u hu;simp at hu;rcases hu with rfl | rfl | rfl <;> rfl
theorem zAI.atK {w:World} {a:Option Addr} {l:List (Int × Int × Int)} (h:zAI 3 RK w a l):zBX w a l:=fun k hk => by
 obtain ⟨b,off,cs,ha,hb,hl,rfl,hc⟩:=h.cell hk (by omega)
 exact ⟨b,off,ha,hb,hc 0 _ rfl,hc 1 _ rfl,hc 2 _ rfl⟩
def RE (_:World) (x:Cps.Ent) (cs:List Value):Prop:=cs=[.int .i64 x.num,.int .i64 x.at_,.bool x.skip]
theorem zL7:zHY RE:=fun _ _ _ _ h _ => h
theorem zQU:zI5 RE:=fun _ _ _ _ _ _ _ h => h
theorem oneE:∀ w x cs,RE w x cs→∀ u ∈ cs,u.oneCell'=true:=by rintro _ x _ rfl u hu;simp at hu;rcases hu with rfl | rfl | rfl <;> rfl
theorem zAI.atE {w:World} {a:Option Addr} {l:List Cps.Ent} (h:zAI 3 RE w a l):Cps.zCX w a l:=fun k hk => by
 obtain ⟨b,off,cs,ha,hb,hl,rfl,hc⟩:=h.cell hk (by omega)
 exact ⟨b,off,ha,hb,hc 0 _ rfl,hc 1 _ rfl,hc 2 _ rfl⟩
def RL (w:World) (x:Cps.Leg) (cs:List Value):Prop:=∃ (ar:Option Addr) (c:Nat),cs=[.int .i64 x.lo,.int .i64 x.hi,.slice ar x.asl.length c]∧zAX w ar x.asl∧(ar=none→c=0)
theorem zCx:zHY RL:=fun _ _ _ _ ⟨a,c,e,h1,h2⟩ hb => ⟨a,c,e,⟨h1.below hb,h2⟩⟩
theorem zQS:zI5 RL:=fun _ _ _ _ _ hg hh ⟨a,c,e,h1,h2⟩ => ⟨a,c,e,⟨h1.unmask hg hh,h2⟩⟩
theorem oneL:∀ w x cs,RL w x cs→∀ u ∈ cs,u.oneCell'=true:=by rintro _ x _ ⟨ar,c,rfl,_⟩ u hu;simp at hu;rcases hu with rfl | rfl | rfl <;> rfl
theorem zAI.atL {w:World} {a:Option Addr} {l:List Cps.Leg} (h:zAI 3 RL w a l):Cps.zBu w a l:=fun k hk => by
 obtain ⟨b,off,cs,ha,hb,hl,⟨ar,c,rfl,h1,h2⟩,hc⟩:=h.cell hk (by omega)
 exact ⟨b,off,ar,c,ha,hb,hc 0 _ rfl,hc 1 _ rfl,hc 2 _ rfl,h1⟩
def RR (w:World) (x:Cps.Route) (cs:List Value):Prop:=∃ (al:Option Addr) (c:Nat),cs=[.slice al x.legs.length c,.bool x.lossy]∧zAI 3 RL w al x.legs∧(al=none→c=0)
theorem zJ2:zHY RR:=fun _ _ _ _ ⟨a,c,e,h1,h2⟩ hb => ⟨a,c,e,⟨h1.below zCx hb,h2⟩⟩
theorem zQQ:zI5 RR:=fun _ _ _ _ _ hg hh ⟨a,c,e,h1,h2⟩ => ⟨a,c,e,⟨h1.unmask zQS hg hh,h2⟩⟩
theorem oneR:∀ w x cs,RR w x cs→∀ u ∈ cs,u.oneCell'=true:=by rintro _ x _ ⟨ar,c,rfl,_⟩ u hu;simp at hu;rcases hu with rfl | rfl <;> rfl
theorem zAI.atR {w:World} {a:Option Addr} {l:List Cps.Route} (h:zAI 2 RR w a l):Cps.zAb w a l:=fun k hk => by
 obtain ⟨b,off,cs,ha,hb,hl,⟨ar,c,rfl,h1,h2⟩,hc⟩:=h.cell hk (by omega)
 exact ⟨b,off,ar,c,ha,hb,hc 0 _ rfl,hc 1 _ rfl,h1.atL⟩
def RD (w:World) (x:Pay.Dis) (cs:List Value):Prop:=∃ (al:Option Addr) (c:Nat),cs=[.int .i64 x.payer,.int .i64 x.lo,.int .i64 x.hi,.slice al x.passed.length c]∧IntsAt w al x.passed∧x.passed.length≤c∧(al=none→c=0)
theorem zHa:zHY RD:=fun _ _ _ _ ⟨a,c,e,h1,h2⟩ hb => ⟨a,c,e,⟨h1.below hb,h2⟩⟩
theorem zQV:zI5 RD:=fun _ _ _ _ _ hg hh ⟨a,c,e,h1,h2⟩ => ⟨a,c,e,⟨h1.unmask hg hh,h2⟩⟩
theorem oneD:∀ w x cs,RD w x cs→∀ u ∈ cs,u.oneCell'=true:=by rintro _ x _ ⟨ar,c,rfl,_⟩ u hu;simp at hu;rcases hu with rfl | rfl | rfl | rfl <;> rfl
theorem zAI.atD {w:World} {a:Option Addr} {l:List Pay.Dis} (h:zAI 4 RD w a l):Pay.zDE w a l:=fun k hk => by
 obtain ⟨b,off,cs,ha,hb,hl,⟨ar,c,rfl,h1,h2⟩,hc⟩:=h.cell hk (by omega)
 exact ⟨b,off,ar,c,ha,hb,hc 0 _ rfl,hc 1 _ rfl,hc 2 _ rfl,hc 3 _ rfl,⟨h1,h2.1,h2.2⟩⟩
structure Adr where
 ak:Option Addr
 ck:Nat
 ad:Option Addr
 cd:Nat
 al:Option Addr
 cl:Nat
 as_:Option Addr
 cs:Nat
 ar:Option Addr
 cr:Nat
 aj:Option Addr
 cj:Nat
 aa:Option Addr
 ca:Nat
abbrev zAW (S:BSt) (A:Adr):Array Value:=#[.int .i64 S.size,.int .i64 S.words,.slice A.ak S.keys.length A.ck,.slice A.ad S.days.length A.cd,.slice A.al S.lost.length A.cl,.slice A.as_ S.post.sends.length A.cs,.slice A.ar S.post.routes.length A.cr,.int .i64 S.post.pat,.slice A.aj S.journal.length A.cj,.int .i64 7,.int .i64 S.rate,.int .i64 S.keeps,.slice A.aa S.ds.length A.ca]
structure Lists (w:World) (S:BSt) (A:Adr):Prop where
 keys:zAI 3 RK w A.ak S.keys
 days:zAI 1 RI w A.ad S.days
 lost:zAI 2 RP w A.al S.lost
 sends:zAI 1 RI w A.as_ S.post.sends
 routes:zAI 2 RR w A.ar S.post.routes
 journal:zAI 3 RE w A.aj S.journal
 ds:zAI 4 RD w A.aa S.ds
 nk:A.ak=none→A.ck=0
 nd:A.ad=none→A.cd=0
 nl:A.al=none→A.cl=0
 ns:A.as_=none→A.cs=0
 nr:A.ar=none→A.cr=0
 nj:A.aj=none→A.cj=0
 na:A.aa=none→A.ca=0
theorem Lists.below {w w' : World} {S:BSt} {A:Adr} (h:Lists w S A) (hb:Below w.heap.size w w'):Lists w' S A :=
 ⟨h.keys.below zOo hb,h.days.below zH9 hb,h.lost.below zJ3 hb,h.sends.below zH9 hb,h.routes.below zJ2 hb,h.journal.below zL7 hb,h.ds.below zHa hb,h.nk,h.nd,h.nl,h.ns,h.nr,h.nj,h.na⟩
theorem Lists.unmask {hd g:Nat} {w:World} {S:BSt} {A:Adr} (hg:g < w.heap.size) (hh:hd < w.heap.size) (h:Lists (mask hd g w) S A):Lists w S A :=
 ⟨h.keys.unmask zQT hg hh,h.days.unmask zOt hg hh,h.lost.unmask zQR hg hh,h.sends.unmask zOt hg hh,h.routes.unmask zQQ hg hh,h.journal.unmask zQU hg hh,h.ds.unmask zQV hg hh,h.nk,h.nd,h.nl,h.ns,h.nr,h.nj,h.na⟩
structure StAt (hd:Nat) (w:World) (g:Nat) (S:BSt) (A:Adr):Prop where
 cells:Cells w g (zAW S A) 162
 lists:Lists (mask hd g w) S A
 old:hd < w.heap.size
theorem StAt.lt {hd:Nat} {w:World} {g:Nat} {S:BSt} {A:Adr} (h:StAt hd w g S A):g < w.heap.size:=h.cells.lt
theorem StAt.below {hd:Nat} {w w' : World} {g:Nat} {S:BSt} {A:Adr} (h:StAt hd w g S A) (hb:Below w.heap.size w w'):StAt hd w' g S A :=
 ⟨h.cells.below hb,h.lists.below (by rw [zAJ];exact zA0 h.lt h.old hb),Nat.lt_of_lt_of_le h.old hb.size⟩
def Blk (w:World) (g:Nat):Prop:=∃ cs:Array Value,cs.size=13∧Cells w g cs 162
theorem StAt.blk {hd:Nat} {w:World} {g:Nat} {S:BSt} {A:Adr} (h:StAt hd w g S A):Blk w g:=⟨_,rfl,h.cells⟩
variable {hd:Nat}
def zBA (hd g:Nat) (S:BSt) (c:Cmd) (n:List Int) (w:World) (e:Ending) (w' : World):Prop :=
 KeepG g w w'∧((errL S c n=0∧e=.returned (.tuple #[])∧∃ A,StAt hd w' g (nxtC S c n) A)∨(errL S c n≠0∧e=refusal (errL S c n)∧Blk w' g))
theorem zBA.bad {g:Nat} {S:BSt} {c:Cmd} {n:List Int} {w w' : World} {E:Int} (hE:errL S c n=E) (h0:E≠0) (k:KeepG g w w') (b:Blk w' g):zBA hd g S c n w (refusal E) w':=by
 subst hE;exact ⟨k,.inr ⟨h0,rfl,b⟩⟩
theorem zA1 {S:BSt} {c:Cmd} {n:List Int} {E:Int} (h:errC S c n=E) (h0:E≠0):errL S c n=E:=by
 unfold errL;rw [if_neg (by rw [h];exact h0),h]
theorem zBy {S:BSt} {c:Cmd} {n:List Int} (h:errC S c n=0) (ha:c.asks=false):errL S c n=0:=by
 unfold errL;rw [if_pos h,ha];rfl
theorem KeepG.drew {g:Nat} {w w' : World} (h:KeepG g w w'):KeepG g w w'.drew:=h.trans (KeepG.of (Nat.lt_of_lt_of_le h.lt h.size) (Below.drew (Below.refl _ _)))
theorem StAt.drew {w:World} {g:Nat} {S:BSt} {A:Adr} (h:StAt hd w g S A):StAt hd w.drew g S A:=h.below (Below.drew (Below.refl _ _))
theorem StAt.put {w:World} {g:Nat} {S S' : BSt} {A A' : Adr} (h:StAt hd w g S A) {k:Nat} {v:Value} (hc:(zAW S A).setIfInBounds k v=zAW S' A') (hl:Lists (mask hd g w) S' A'):StAt hd (w.setCell ⟨g,k,none⟩ v) g S' A' :=
 ⟨by rw [← hc];exact h.cells.set k v,by rw [zEH];exact hl,by simpa [World.setCell] using h.old⟩
theorem zPk (g:Nat) (S:BSt) (A:Adr) (an:Option Addr) (cn:Nat) (k:Int) (w:World) (h:StAt hd w g S A) (F:Few S) (hn:IntsAt (mask hd g w) an [k]) :
  Calls Tryz.prog 239 #[.pointer (some ⟨g,0,none⟩),.slice an 1 cn] w (zBA hd g S .day [k] w):=by
 have hg:=h.lt
 have f_keys:=F.keys
 have f_days:=F.days
 obtain ⟨bn,on,rfl,ln,n0⟩:=(hn.unmask hg h.old) 0 (by simp)
 simp at n0
 have ln0:=ln
 have hw0:=KeepG.refl hg
 have p2:=h.cells.cell 2
 simp at p2
 have p3:=h.cells.cell 3
 simp at p3
 obtain ⟨r,hr⟩:∃ r,idxB k S.keys.length=r:=⟨_,rfl⟩
 have Hr:Hid ((decide (0≤k) && decide (k≤((S.keys.length:Int) - 1)))=r):=Lib.hid hr
 have iw:IntKind.i64.wrap ((S.keys.length:Int) - 1)=(S.keys.length:Int) - 1:=IntWalk.i64_in _ (by omega)
 go_enter Tryz.func239,Tryz.ntmps239
 go_upto_region 0 with fail
 (refine zAC 11 (by kernel_rfl) (by kernel_rfl) ?_;simp only [zzA,zzB,zzC,zzD];(repeat (go_big_quiet_step (((go_at_call 181;refine zAH (zA6 k 0 _ r Hr _))))));refine wpQuiet_nil ?_;rintro _ ⟨ex,rfl⟩;have hex:=ex.below;have hexz:=ex.size;(try simp at hexz);(try (have hy0:w.heap.size < ex.to.heap.size:=by omega));(try (have hy1:w.heap.size + 1 < ex.to.heap.size:=by omega));(try (have hy2:w.heap.size + 2 < ex.to.heap.size:=by omega)))
 obtain ⟨w1,hX⟩:∃ x:World,x=ex.to:=⟨_,rfl⟩
 rw [← hX] at hex ⊢
 clear hX hexz
 have hw1:KeepG g w w1:=hw0.trans (KeepG.of h.lt hex)
 replace n0:=zAA hex n0
 replace ln:=Nat.lt_of_lt_of_le ln hex.size
 replace h:=h.below hex
 replace p2:=zAA hex p2
 replace p3:=zAA hex p3
 replace hg:=h.lt
 clear hex
 go_wp2_with fail
 go_at_call 188
 cases r
 ·refine (zAP 7 _).mono ?_
  rintro e _ ⟨rfl,rfl⟩
  exact ⟨rfl,.bad (zA1 (E:=7) (by simp [errC,chain,hr]) (by decide)) (by decide) hw1 h.blk⟩
 refine (zA3 7 _).mono ?_
 rintro e _ ⟨rfl,rfl⟩
 go_wp2_with fail
 go_at_call 188
 obtain ⟨q3,hq3⟩:∃ q,(decide ((S.days.length:Int) < 8))=q:=⟨_,rfl⟩
 rw [hq3]
 cases q3
 ·refine (zAP 3 _).mono ?_
  rintro e _ ⟨rfl,rfl⟩
  exact ⟨rfl,.bad (zA1 (E:=3) (by simp at hq3;simp [errC,chain,hr];omega) (by decide)) (by decide) hw1 h.blk⟩
 refine (zA3 3 _).mono ?_
 rintro e _ ⟨rfl,rfl⟩
 replace hq3:(S.days.length:Int) < 8:=by simpa using hq3
 obtain ⟨vs,rv,sv⟩:=h.lists.days
 have lv:=rv.1
 have ov:=rv.one oneI (by omega)
 replace sv:=zAh h.lt h.old sv
 have nv:A.ad=none→S.days.length=0∧A.cd=0:=fun e => ⟨by have q:=h.lists.days;rw [e] at q;rw [q.none (by omega)];rfl,h.lists.nd e⟩
 go_upto_region 2 with fail
 (refine zAD 13 [] [13] 37 [true,true,true,true,true,true,true,true,true,false,true,true,true] [OwnV 3 1 w1.heap.size (S.days.length + 1) (vs ++ [.int .i64 k])] (by kernel_rfl) (by kernel_rfl) rfl (zAB (fun v w w' h hb => h.kept hb) zAR) ?_;simp only [zAU,List.filterMap_cons,List.filterMap_nil,zzH,zzI,zzJ];(repeat (refine zAM _ rfl (fun w => (by go_simp;rfl)) ?_));refine zAS ?_;simp only [zAF,zAt,Act.put,zzG,zzE,zzF,zzA,zzB,zzC,zzD];(repeat (refine zAL (fun K hK => ?_);go_simp;first | (refine hK _ ?_;clear hK K) | (apply Exists.intro;refine ⟨fun ex => ?_,hK _ ?_⟩;(fail);clear hK K)));refine zAQ ?_;simp only [zAT,under,zAZ,and_true,List.nil_append,List.cons_append])
 refine ⟨fun e => ?_,fun e => ?_⟩
 ·go_simp
  refine (zGw A.ad S.days.length A.cd vs e.to (zAO sv e.below) lv nv ov (by omega) k).mono ?_
  rintro _ _ ⟨⟨a',c',rfl,o⟩,b⟩
  exact ⟨b,a',c',rfl,o.base_le e.size⟩
 rintro v1 ⟨a7,c7,rfl,o7⟩
 simp only [Act.put,zzG,zzE,zzF]
 have heb:=e.below
 obtain ⟨w2,hV2⟩:∃ x:World,x=e.to:=⟨_,rfl⟩
 rw [← hV2] at heb o7 ⊢
 clear hV2 e
 have rv':=zAY.below zH9 rv (by rw [zAJ];exact zA0 h.lt h.old heb)
 have hgb:g < w1.heap.size:=h.lt
 have hgbh:hd < w1.heap.size:=h.old
 have hw2:KeepG g w w2:=hw1.trans (KeepG.of h.lt heb)
 replace n0:=zAA heb n0
 replace ln:=Nat.lt_of_lt_of_le ln heb.size
 replace h:=h.below heb
 replace p2:=zAA heb p2
 replace p3:=zAA heb p3
 replace hg:=h.lt
 have pf:=h.cells.frozen 3
 go_wp2
 refine bodyPost_end (results_none rfl _ _ _) rfl ⟨hw2.set 3 _,.inl ⟨zBy (by simp [errC,chain,hr];omega) rfl,rfl,⟨{ A with ad:=a7,cd:=c7 },h.put (by simp [nxtC]) ?_⟩⟩⟩
 have L:=h.lists
 exact { L with days:=zAI.own (o7.mask hgb hgbh) (rv'.snoc rfl rfl),nd:=fun e => by subst e;exact zBY o7 }
def BkV (B:Nat) (s wo m a t:Int) (v:Value) (w:World):Prop:=∃ g1 g2,v=.agg #[.int .i64 s,.int .i64 wo,.slice (some ⟨g1,0,none⟩) 1 1,.slice (some ⟨g2,0,none⟩) 1 1]∧B≤g1∧B≤g2∧Cells w g1 #[.int .i64 m,.int .i64 a,.int .i64 t] 186∧Cells w g2 #[.int .i64 0] 3
theorem BkV.kept {B:Nat} {s wo m a t:Int} {v:Value} {w w' : World} (h:BkV B s wo m a t v w) (hb:Below w.heap.size w w'):BkV B s wo m a t v w':=let ⟨g1,g2,h1,h2,h3,h4,h5⟩:=h;⟨g1,g2,h1,h2,h3,h4.below hb,h5.below hb⟩
theorem key1 {w:World} {g:Nat} {m a t:Int} (h:Cells w g #[.int .i64 m,.int .i64 a,.int .i64 t] 186):zBX w (some ⟨g,0,none⟩) [(m,a,t)]:=fun k hk => by
 have hk0:k=0:=by simp at hk;exact hk
 subst hk0
 exact ⟨g,0,rfl,h.lt,by rw [h.cell];rfl,by rw [h.cell];rfl,by rw [h.cell];rfl⟩
theorem int1 {w:World} {g:Nat} {x:Int} (h:Cells w g #[.int .i64 x] 3):IntsAt w (some ⟨g,0,none⟩) [x]:=h.ints [x] rfl
theorem chk1 (s wo m a t:Int) (g1 g2:Nat) (E:Int) (w:World) (hE:Hid (Cph.zA7 s wo [(m,a,t)] [0]=E)) (h1:Cells w g1 #[.int .i64 m,.int .i64 a,.int .i64 t] 186) (h2:Cells w g2 #[.int .i64 0] 3) :
  Calls Tryz.prog 172 #[.agg #[.int .i64 s,.int .i64 wo,.slice (some ⟨g1,0,none⟩) 1 1,.slice (some ⟨g2,0,none⟩) 1 1]] w fun e w' => e=.returned (.int .i64 E)∧Below w.heap.size w w':=by
 rw [← hE.out]
 exact Cph.zEU s wo (some ⟨g1,0,none⟩) [(m,a,t)] 1 (some ⟨g2,0,none⟩) [0] 1 w (key1 h1) (int1 h2) (by simp) (by simp)
theorem zPj (g:Nat) (S:BSt) (A:Adr) (an:Option Addr) (cn:Nat) (m at_ t:Int) (w:World) (h:StAt hd w g S A) (F:Few S) (hn:IntsAt (mask hd g w) an [m,at_,t]) :
  Calls Tryz.prog 238 #[.pointer (some ⟨g,0,none⟩),.slice an 3 cn] w (zBA hd g S .key [m,at_,t] w):=by
 have hg:=h.lt
 have f_keys:=F.keys
 obtain ⟨bn,on,rfl,ln,n0⟩:=(hn.unmask hg h.old) 0 (by simp)
 obtain ⟨_,_,e_1,_,n1⟩:=(hn.unmask hg h.old) 1 (by simp)
 obtain ⟨rfl,rfl⟩:=zAe e_1
 obtain ⟨_,_,e_2,_,n2⟩:=(hn.unmask hg h.old) 2 (by simp)
 obtain ⟨rfl,rfl⟩:=zAe e_2
 simp at n0 n1 n2
 have ln0:=ln
 have hw0:=KeepG.refl hg
 have p0:=h.cells.cell 0
 simp at p0
 have p1:=h.cells.cell 1
 simp at p1
 have p2:=h.cells.cell 2
 simp at p2
 have f_size:Hid (S.size=S.size):=Lib.hid rfl
 obtain ⟨E,hE⟩:∃ E,Cph.zA7 S.size S.words [(m,at_,t)] [0]=E:=⟨_,rfl⟩
 have HE:=Lib.hid hE
 go_enter Tryz.func238,Tryz.ntmps238
 go_upto_region 0 with fail
 (refine zAD 11 [] [11] 60 [true,true,true,true,true,true,true,true,true,true,false] [PtrV w.heap.size #[.int .i64 0,.int .i64 0,.int .i64 0] 186] (by kernel_rfl) (by kernel_rfl) rfl (zAB (fun v w w' h hb => h.kept hb) zAR) ?_;simp only [zAU,List.filterMap_cons,List.filterMap_nil,zzH,zzI,zzJ];(repeat (refine zAM _ rfl (fun w => (by go_simp;rfl)) ?_));refine zAS ?_;simp only [zAF,zAt,Act.put,zzG,zzE,zzF,zzA,zzB,zzC,zzD];(repeat (refine zAL (fun K hK => ?_);go_simp;first | (refine hK _ ?_;clear hK K) | (apply Exists.intro;refine ⟨fun ex => ?_,hK _ ?_⟩;(fail);clear hK K)));refine zAQ ?_;simp only [zAT,under,zAZ,and_true,List.nil_append,List.cons_append])
 refine ⟨?_,?_⟩
 ·intro e
  go_simp
  exact ⟨(Below.refl _ _).alloc (Nat.le_refl _) _,e.to.heap.size,rfl,e.size,Cells.new _ _ _⟩
 intro e
 rintro v1 ⟨B1,rfl,lB1,CB1⟩
 simp only [Act.put,zzG,zzE,zzF]
 have heb:=e.below
 obtain ⟨V,hV⟩:∃ x:World,x=e.to:=⟨_,rfl⟩
 rw [← hV] at heb CB1 ⊢
 clear hV e
 have z0:=CB1.cell 0
 have y0:=CB1.frozen 0
 have z1:=CB1.cell 1
 have y1:=CB1.frozen 1
 have z2:=CB1.cell 2
 have y2:=CB1.frozen 2
 have lz:=CB1.lt
 simp at z0 z1 z2
 go_upto_region 1 with fail
 obtain ⟨w1,hV9⟩:∃ x:World,x=((V.setCell ⟨B1,0,none⟩ (.int .i64 m)).setCell ⟨B1,1,none⟩ (.int .i64 at_)).setCell ⟨B1,2,none⟩ (.int .i64 t):=⟨_,rfl⟩
 have hb9:Below w.heap.size w w1:=by rw [hV9];exact ((heb.setCell (p:=⟨B1,0,none⟩) lB1 _).setCell (p:=⟨B1,1,none⟩) lB1 _).setCell (p:=⟨B1,2,none⟩) lB1 _
 replace CB1:Cells w1 B1 #[.int .i64 m,.int .i64 at_,.int .i64 t] 186:=by rw [hV9];exact ((CB1.set 0 _).set 1 _).set 2 _
 rw [← hV9]
 clear hV9 z0 y0 z1 y1 z2 y2 lz heb
 have hw1:KeepG g w w1:=hw0.trans (KeepG.of h.lt hb9)
 replace n0:=zAA hb9 n0
 replace n1:=zAA hb9 n1
 replace n2:=zAA hb9 n2
 replace ln:=Nat.lt_of_lt_of_le ln hb9.size
 replace h:=h.below hb9
 replace p0:=zAA hb9 p0
 replace p1:=zAA hb9 p1
 replace p2:=zAA hb9 p2
 replace hg:=h.lt
 go_wp2_with fail
 go_at_call 188
 obtain ⟨q8,hq8⟩:∃ q,(S.size != 0)=q:=⟨_,rfl⟩
 rw [hq8]
 cases q8
 ·refine (zAP 8 _).mono ?_
  rintro e _ ⟨rfl,rfl⟩
  exact ⟨rfl,.bad (zA1 (E:=8) (by simp at hq8;simp [errC,chain,hq8]) (by decide)) (by decide) hw1 h.blk⟩
 refine (zA3 8 _).mono ?_
 rintro e _ ⟨rfl,rfl⟩
 replace hq8:S.size≠0:=by simpa using hq8
 have x0:=CB1.cell 0
 have x1:=CB1.cell 1
 have x2:=CB1.cell 2
 have lx:=CB1.lt
 simp at x0 x1 x2
 go_upto_region 2 with fail
 (refine zAD 15 [] [15] 60 [true,true,true,true,true,true,true,true,true,true,true,false,false,false,false] [LitV w1.heap.size 1 #[.int .i64 m,.int .i64 at_,.int .i64 t] 186,LitV w1.heap.size 1 #[.int .i64 0] 3,BkV w1.heap.size S.size S.words m at_ t,PtrV w1.heap.size #[.int .i64 0,.int .i64 0,.slice none 0 0,.slice none 0 0] 124] (by kernel_rfl) (by kernel_rfl) rfl (zAB (fun v w w' h hb => h.kept hb) (zAB (fun v w w' h hb => h.kept hb) (zAB (fun v w w' h hb => h.kept hb) (zAB (fun v w w' h hb => h.kept hb) zAR)))) ?_;simp only [zAU,List.filterMap_cons,List.filterMap_nil,zzH,zzI,zzJ];(repeat (refine zAM _ rfl (fun w => (by go_simp;rfl)) ?_));refine zAS ?_;simp only [zAF,zAt,Act.put,zzG,zzE,zzF,zzA,zzB,zzC,zzD];(repeat (refine zAL (fun K hK => ?_);go_simp;first | (refine hK _ ?_;clear hK K) | (apply Exists.intro;refine ⟨fun ex => ?_,hK _ ?_⟩;(fail);clear hK K)));refine zAQ ?_;simp only [zAT,under,zAZ,and_true,List.nil_append,List.cons_append])
 refine ⟨⟨?_,?_,?_,?_⟩,?_⟩
 ·intro e
  go_simp
  exact ⟨(Below.refl _ _).alloc (Nat.le_refl _) _,e.to.heap.size,rfl,e.size,Cells.new _ _ _⟩
 ·intro e v1 h1
  go_simp
  exact ⟨(Below.refl _ _).alloc (Nat.le_refl _) _,e.to.heap.size,rfl,e.size,Cells.new _ _ _⟩
 ·intro e v1 h1 v2 h2
  obtain ⟨g1,rfl,l1,c1⟩:=h1 (by kernel_rfl)
  obtain ⟨g2,rfl,l2,c2⟩:=h2 (by kernel_rfl)
  go_simp
  exact ⟨Below.refl _ _,g1,g2,rfl,l1,l2,c1,c2⟩
 ·intro e v1 h1 v2 h2 v3 h3
  go_simp
  exact ⟨(Below.refl _ _).alloc (Nat.le_refl _) _,e.to.heap.size,rfl,e.size,Cells.new _ _ _⟩
 intro e
 rintro v1 - v2 - v3 ⟨g1,g2,rfl,l1,l2,c1,c2⟩ v4 ⟨B2,rfl,lB2,CB2⟩
 simp only [Act.put,zzG,zzE,zzF]
 have heb:=e.below
 obtain ⟨V,hV⟩:∃ x:World,x=e.to:=⟨_,rfl⟩
 rw [← hV] at heb CB2 c1 c2 ⊢
 clear hV e
 have z0:=CB2.cell 0
 have y0:=CB2.frozen 0
 have z1:=CB2.cell 1
 have y1:=CB2.frozen 1
 have z2:=CB2.cell 2
 have y2:=CB2.frozen 2
 have z3:=CB2.cell 3
 have y3:=CB2.frozen 3
 have lz:=CB2.lt
 simp at z0 z1 z2 z3
 have n_c1:g1≠B2:=zEV c1 CB2 (by decide)
 have n_c2:g2≠B2:=zEV c2 CB2 (by decide)
 go_upto_region 3 with fail
 obtain ⟨w2,hV9⟩:∃ x:World,x=(((V.setCell ⟨B2,0,none⟩ (.int .i64 S.size)).setCell ⟨B2,1,none⟩ (.int .i64 S.words)).setCell ⟨B2,2,none⟩ (.slice (some ⟨g1,0,none⟩) 1 1)).setCell ⟨B2,3,none⟩ (.slice (some ⟨g2,0,none⟩) 1 1):=⟨_,rfl⟩
 have hb9:Below w1.heap.size w1 w2:=by rw [hV9];exact (((heb.setCell (p:=⟨B2,0,none⟩) lB2 _).setCell (p:=⟨B2,1,none⟩) lB2 _).setCell (p:=⟨B2,2,none⟩) lB2 _).setCell (p:=⟨B2,3,none⟩) lB2 _
 replace CB2:Cells w2 B2 #[.int .i64 S.size,.int .i64 S.words,.slice (some ⟨g1,0,none⟩) 1 1,.slice (some ⟨g2,0,none⟩) 1 1] 124:=by rw [hV9];exact (((CB2.set 0 _).set 1 _).set 2 _).set 3 _
 replace c1:Cells w2 g1 #[.int .i64 m,.int .i64 at_,.int .i64 t] 186:=by rw [hV9];exact ((((c1.other n_c1 0 _).other n_c1 1 _).other n_c1 2 _).other n_c1 3 _)
 replace c2:Cells w2 g2 #[.int .i64 0] 3:=by rw [hV9];exact ((((c2.other n_c2 0 _).other n_c2 1 _).other n_c2 2 _).other n_c2 3 _)
 rw [← hV9]
 clear hV9 z0 y0 z1 y1 z2 y2 z3 y3 lz heb
 have hw2:KeepG g w w2:=hw1.trans (KeepG.of h.lt hb9)
 replace n0:=zAA hb9 n0
 replace n1:=zAA hb9 n1
 replace n2:=zAA hb9 n2
 replace ln:=Nat.lt_of_lt_of_le ln hb9.size
 replace CB1:=CB1.below hb9
 replace x0:=zAA hb9 x0
 replace x1:=zAA hb9 x1
 replace x2:=zAA hb9 x2
 replace lx:=Nat.lt_of_lt_of_le lx hb9.size
 replace h:=h.below hb9
 replace p0:=zAA hb9 p0
 replace p1:=zAA hb9 p1
 replace p2:=zAA hb9 p2
 replace hg:=h.lt
 have u0:=CB2.cell 0
 have u1:=CB2.cell 1
 have u2:=CB2.cell 2
 have u3:=CB2.cell 3
 have lu:=CB2.lt
 simp at u0 u1 u2 u3
 go_wp2_with fail
 go_at_call 172
 refine (chk1 S.size S.words m at_ t g1 g2 E _ HE c1 c2).mono ?_
 rintro e w3 ⟨rfl,hb8⟩
 clear u0 u1 u2 u3 lu CB2
 have hw3:KeepG g w w3:=hw2.trans (KeepG.of h.lt hb8)
 replace n0:=zAA hb8 n0
 replace n1:=zAA hb8 n1
 replace n2:=zAA hb8 n2
 replace ln:=Nat.lt_of_lt_of_le ln hb8.size
 replace CB1:=CB1.below hb8
 replace x0:=zAA hb8 x0
 replace x1:=zAA hb8 x1
 replace x2:=zAA hb8 x2
 replace lx:=Nat.lt_of_lt_of_le lx hb8.size
 replace c1:=c1.below hb8
 replace c2:=c2.below hb8
 replace h:=h.below hb8
 replace p0:=zAA hb8 p0
 replace p1:=zAA hb8 p1
 replace p2:=zAA hb8 p2
 replace hg:=h.lt
 go_wp2_with fail
 go_at_call 188
 obtain ⟨q2,hq2⟩:∃ q,(E == 0)=q:=⟨_,rfl⟩
 rw [hq2]
 cases q2
 ·refine (zAP 2 _).mono ?_
  rintro e _ ⟨rfl,rfl⟩
  exact ⟨rfl,.bad (zA1 (E:=2) (by simp at hq2;simp [errC,chain,hq8,hE,hq2]) (by decide)) (by decide) hw3 h.blk⟩
 refine (zA3 2 _).mono ?_
 rintro e _ ⟨rfl,rfl⟩
 replace hq2:E=0:=by simpa using hq2
 go_wp2_with fail
 go_at_call 188
 obtain ⟨q3,hq3⟩:∃ q,(decide ((S.keys.length:Int) < 5))=q:=⟨_,rfl⟩
 rw [hq3]
 cases q3
 ·refine (zAP 3 _).mono ?_
  rintro e _ ⟨rfl,rfl⟩
  exact ⟨rfl,.bad (zA1 (E:=3) (by simp at hq3;simp [errC,chain,hq8,hE,hq2];omega) (by decide)) (by decide) hw3 h.blk⟩
 refine (zA3 3 _).mono ?_
 rintro e _ ⟨rfl,rfl⟩
 replace hq3:(S.keys.length:Int) < 5:=by simpa using hq3
 obtain ⟨vs,rv,sv⟩:=h.lists.keys
 have lv:=rv.1
 have ov:=rv.one oneK (by omega)
 replace sv:=zAh h.lt h.old sv
 have nv:A.ak=none→S.keys.length=0∧A.ck=0:=fun e => ⟨by have q:=h.lists.keys;rw [e] at q;rw [q.none (by omega)];rfl,h.lists.nk e⟩
 go_upto_region 5 with fail
 (refine zAD 11 [] [11] 60 [true,true,true,true,true,true,true,false,true,true,true] [OwnV 186 3 w3.heap.size (S.keys.length + 1) (vs ++ [.int .i64 m,.int .i64 at_,.int .i64 t])] (by kernel_rfl) (by kernel_rfl) rfl (zAB (fun v w w' h hb => h.kept hb) zAR) ?_;simp only [zAU,List.filterMap_cons,List.filterMap_nil,zzH,zzI,zzJ];(repeat (refine zAM _ rfl (fun w => (by go_simp;rfl)) ?_));refine zAS ?_;simp only [zAF,zAt,Act.put,zzG,zzE,zzF,zzA,zzB,zzC,zzD];(repeat (refine zAL (fun K hK => ?_);go_simp;first | (refine hK _ ?_;clear hK K) | (apply Exists.intro;refine ⟨fun ex => ?_,hK _ ?_⟩;(fail);clear hK K)));refine zAQ ?_;simp only [zAT,under,zAZ,and_true,List.nil_append,List.cons_append])
 refine ⟨fun e => ?_,fun e => ?_⟩
 ·go_simp
  refine (zPN A.ak S.keys.length A.ck vs e.to (zAO sv e.below) lv nv ov (by omega) m at_ t).mono ?_
  rintro _ _ ⟨⟨a',c',rfl,o⟩,b⟩
  exact ⟨b,a',c',rfl,o.base_le e.size⟩
 rintro v1 ⟨a7,c7,rfl,o7⟩
 simp only [Act.put,zzG,zzE,zzF]
 have heb:=e.below
 obtain ⟨w4,hV2⟩:∃ x:World,x=e.to:=⟨_,rfl⟩
 rw [← hV2] at heb o7 ⊢
 clear hV2 e
 have rv':=zAY.below zOo rv (by rw [zAJ];exact zA0 h.lt h.old heb)
 have hgb:g < w3.heap.size:=h.lt
 have hgbh:hd < w3.heap.size:=h.old
 have hw4:KeepG g w w4:=hw3.trans (KeepG.of h.lt heb)
 replace n0:=zAA heb n0
 replace n1:=zAA heb n1
 replace n2:=zAA heb n2
 replace ln:=Nat.lt_of_lt_of_le ln heb.size
 replace CB1:=CB1.below heb
 replace x0:=zAA heb x0
 replace x1:=zAA heb x1
 replace x2:=zAA heb x2
 replace lx:=Nat.lt_of_lt_of_le lx heb.size
 replace c1:=c1.below heb
 replace c2:=c2.below heb
 replace h:=h.below heb
 replace p0:=zAA heb p0
 replace p1:=zAA heb p1
 replace p2:=zAA heb p2
 replace hg:=h.lt
 have pf:=h.cells.frozen 2
 go_wp2
 refine bodyPost_end (results_none rfl _ _ _) rfl ⟨hw4.set 2 _,.inl ⟨zBy (by simp [errC,chain,hq8,hE,hq2];omega) rfl,rfl,⟨{ A with ak:=a7,ck:=c7 },h.put (by simp [nxtC]) ?_⟩⟩⟩
 have L:=h.lists
 exact { L with keys:=zAI.own (o7.mask hgb hgbh) (rv'.snoc rfl rfl),nk:=fun e => by subst e;exact zBY o7 }
end Go.Proofs.YticjeianiahppaaGreatDoor
namespace Go.Proofs.YticjeianiahppaaGreatDoor
open Go.RowKit Go.Flow
variable {hd:Nat}
def ExT (n:Nat) (E:Int) (v:Value) (_:World):Prop:=∃ a c,v=.tuple #[.slice a n c,.int .i64 E]
theorem ExT.kept {n:Nat} {E:Int} {v:Value} {w w' : World} (h:ExT n E v w) (_:Below w.heap.size w w'):ExT n E v w':=h
def ExS (n:Nat) (v:Value) (_:World):Prop:=∃ a c,v=.slice a n c
theorem ExS.kept {n:Nat} {v:Value} {w w' : World} (h:ExS n v w) (_:Below w.heap.size w w'):ExS n v w':=h
def ExI (E:Int) (v:Value) (_:World):Prop:=v=.int .i64 E
theorem ExI.kept {E:Int} {v:Value} {w w' : World} (h:ExI E v w) (_:Below w.heap.size w w'):ExI E v w':=h
theorem Few.small {S:BSt} (F:Few S):Cps.PostSmall S.post:=⟨by have:=F.sends;omega,by have:=F.routes;omega,fun r hr => by have:=F.legs r hr;omega,fun r hr l hl => by have:=F.asl r hr l hl;omega⟩
theorem zKw {S:BSt} (h:S.journal.length=0):zBB S=true:=by
 unfold zBB;rw [List.eq_nil_of_length_eq_zero h];rfl
theorem zMn {S:BSt} (h:S.journal.length≠0) {E:Int} (hE:Cps.zCa S.post S.journal=E):zBB S=(E == 0):=by
 unfold zBB
 rw [hE,decide_eq_false (fun e => h (by rw [e];rfl)),Bool.false_or]
 cases h:(E == 0)
 ·simpa using h
 ·simpa using h
def zH2 (S:BSt) (w:World) (e:Ending) (w' : World):Prop:=Below w.heap.size w w'∧e=if zBB S=true then .returned (.tuple #[]) else refusal 9
theorem zH2.mk {S:BSt} {w w' : World} {e:Ending} (hb:Below w.heap.size w w') (he:e=if zBB S=true then .returned (.tuple #[]) else refusal 9):zH2 S w e w':=⟨hb,he⟩
theorem zCF (g:Nat) (S:BSt) (A:Adr) (w:World) (h:StAt hd w g S A) (F:Few S) :
  Calls Tryz.prog 297 #[.pointer (some ⟨g,0,none⟩)] w (zH2 S w):=by
 have hg:=h.lt
 have p5:=h.cells.cell 5
 have p6:=h.cells.cell 6
 have p7:=h.cells.cell 7
 have p8:=h.cells.cell 8
 simp at p5 p6 p7 p8
 by_cases h0:S.journal.length=0
 ·have hx:=Lib.hid (zKw h0)
  have hn0:¬ 0 < S.journal.length:=by omega
  have hnI:¬ (0:Int) < (S.journal.length:Int):=by omega
  clear h0
  go_enter Tryz.func297,Tryz.ntmps297
  go_wp2
  exact bodyPost_end (results_none rfl _ _ _) rfl (.mk (Below.refl _ _) (by rw [if_pos hx.out]))
 ·obtain ⟨E,hE⟩:∃ E,Cps.zCa S.post S.journal=E:=⟨_,rfl⟩
  obtain ⟨t,ht⟩:∃ t,Cps.zDU S.post S.journal=t:=⟨_,rfl⟩
  obtain ⟨n,hn⟩:∃ n,t.length=n:=⟨_,rfl⟩
  have hx:=Lib.hid (zMn h0 hE)
  have hn0:0 < S.journal.length:=by omega
  have hnI:(0:Int) < (S.journal.length:Int):=by omega
  have L:=h.lists.unmask hg h.old
  have HE:=Lib.hid hE
  have HT:=Lib.hid ht
  have HN:=Lib.hid hn
  have HS:=Lib.hid F.small
  have call:=fun (W:World) (b:Below w.heap.size w W) => Cps.zPv A.as_ A.cs A.ar A.cr S.post A.aj S.journal A.cj W E t n HE HT HN (L.sends.atI.below b) (L.routes.atR.below b) HS (L.journal.atE.below b) (by have:=F.journal;omega)
  clear h0 hE ht hn
  go_enter Tryz.func297,Tryz.ntmps297
  go_upto_region 1 with fail
  (refine zAD 16 [] [] 28 [true,true,true,true,true,true,true,true,true,true,false,false,false,false,false,false] [ExT n E,ExT n E,ExS n,ExI E,ExS n,ExI E] (by kernel_rfl) (by kernel_rfl) rfl (zAB (fun v w w' h hb => h.kept hb) (zAB (fun v w w' h hb => h.kept hb) (zAB (fun v w w' h hb => h.kept hb) (zAB (fun v w w' h hb => h.kept hb) (zAB (fun v w w' h hb => h.kept hb) (zAB (fun v w w' h hb => h.kept hb) zAR)))))) ?_;simp only [zAU,List.filterMap_cons,List.filterMap_nil,zzH,zzI,zzJ];(repeat (refine zAM _ rfl (fun w => (by go_simp;rfl)) ?_));refine zAS ?_;simp only [zAF,zAt,Act.put,zzG,zzE,zzF,zzA,zzB,zzC,zzD];(repeat (refine zAL (fun K hK => ?_);go_simp;first | (refine hK _ ?_;clear hK K) | (apply Exists.intro;refine ⟨fun ex => ?_,hK _ ?_⟩;(fail);clear hK K)));refine zAQ ?_;simp only [zAT,under,zAZ,and_true,List.nil_append,List.cons_append])
  refine ⟨⟨?_,?_,?_,?_,?_,?_⟩,?_⟩
  ·intro e
   go_simp
   refine (call _ e.below).mono ?_
   rintro _ _ ⟨⟨a,c,rfl,_⟩,b⟩
   exact ⟨b,a,c,rfl⟩
  ·intro e v1 h1
   go_simp
   exact ⟨Below.refl _ _,h1 (by kernel_rfl)⟩
  ·intro e v1 _ v2 h2
   obtain ⟨a,c,rfl⟩:=h2 (by kernel_rfl)
   go_simp
   exact ⟨Below.refl _ _,a,c,rfl⟩
  ·intro e v1 _ v2 h2 v3 _
   obtain ⟨a,c,rfl⟩:=h2 (by kernel_rfl)
   go_simp
   exact ⟨Below.refl _ _,rfl⟩
  ·intro e v1 _ v2 _ v3 h3 v4 _
   go_simp
   exact ⟨Below.refl _ _,h3 (by kernel_rfl)⟩
  ·intro e v1 _ v2 _ v3 _ v4 h4 v5 _
   go_simp
   exact ⟨Below.refl _ _,h4 (by kernel_rfl)⟩
  intro e
  rintro v1 - v2 - v3 - v4 - v5 ⟨a5,c5,rfl⟩ v6 hv6
  obtain rfl:v6=.int .i64 E:=hv6
  simp only [Act.put,zzG,zzE,zzF]
  have hb:=e.below
  obtain ⟨x2,hx2⟩:∃ x:World,x=e.to:=⟨_,rfl⟩
  rw [← hx2] at hb ⊢
  clear hx2 e call
  go_wp2_with fail
  go_at_call 188
  obtain ⟨q,hq⟩:∃ q,(E == 0)=q:=⟨_,rfl⟩
  rw [hq]
  cases q
  ·refine (zAP 9 _).mono ?_
   rintro e _ ⟨rfl,rfl⟩
   exact ⟨rfl,.mk hb (by rw [hx.out,hq];rfl)⟩
  refine (zA3 9 _).mono ?_
  rintro e _ ⟨rfl,rfl⟩
  go_wp2
  exact bodyPost_end (results_none rfl _ _ _) rfl (.mk hb (by rw [hx.out,hq];rfl))
end Go.Proofs.YticjeianiahppaaGreatDoor
