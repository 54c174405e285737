/- The session book: contracts of the program and of the laws' helpers, joined (Kv, Kw, Kx, Ky). -/
import Derived.Test.YticjeianiahppaaGreatDoorBG
import Derived.Test.YticjeianiahppaaGreatDoorBP
set_option linter.unusedVariables false
set_option linter.unusedSimpArgs false
set_option linter.unnecessarySimpa false
set_option maxRecDepth 100000
set_option maxHeartbeats 40000000
namespace Go.Proofs.YticjeianiahppaaGreatDoor
theorem zCP {α:Type} {l:List α} {k:Int} {f:α→α} {x:α} (h:x ∈ putAt l k f):x ∈ l∨∃ y,l[k.toNat]?=some y∧x=f y:=by
 unfold putAt at h
 obtain ⟨i,hi,e⟩:=List.mem_iff_getElem.1 h
 rw [List.getElem_modify] at e
 split at e
 ·rename_i hk
  have hl:i < l.length:=by simpa using hi
  exact .inr ⟨l[i],by rw [hk];exact List.getElem?_eq_getElem hl,e.symm⟩
 ·exact .inl (e ▸ List.getElem_mem _)
theorem zDP {α:Type} (l:List α) (k:Int) (f:α→α):(putAt l k f).length=l.length:=by simp [putAt]
theorem zHz {α:Type} (l:List α) (k:Int):(zDn l k).length≤l.length:=by simp [zDn];omega
theorem zAE {b:Bool} {e:Int} {r:List (Bool × Int)} (he:e≠0) (h:chain ((b,e) :: r)=0):b=true∧chain r=0:=by
 cases b
 ·exact absurd h he
 ·exact ⟨rfl,h⟩
theorem zHN {S:BSt} {c:Cmd} {n:List Int} (h:errC S c n=0):n.length=c.many:=by
 cases c <;> (rcases n with _ | ⟨a,_ | ⟨b,_ | ⟨d,_ | ⟨e,_ | ⟨f,t⟩⟩⟩⟩⟩ <;> first | rfl | exact absurd h (by show (4:Int)≠0;decide))
theorem zOP {S:BSt} {c:Cmd} {n:List Int} (F:Few S) (h:errC S c n=0):Few (nxtC S c n):=by
 have hl:=zHN h
 cases c
 case «book» =>
  match n,hl with
  | [s,w],_ =>
   exact ⟨by simp [nxtC],by simp [nxtC],by simp [nxtC],F.sends,F.routes,F.legs,F.asl,F.journal,F.ds,F.passed⟩
 case «key» =>
  match n,hl with
  | [m,a,t],_ =>
   obtain ⟨_,h⟩:=zAE (by decide) h
   obtain ⟨_,h⟩:=zAE (by decide) h
   obtain ⟨h1,_⟩:=zAE (by decide) h
   exact ⟨by simp at h1;simp [nxtC];omega,F.days,F.lost,F.sends,F.routes,F.legs,F.asl,F.journal,F.ds,F.passed⟩
 case «day» =>
  match n,hl with
  | [k],_ =>
   obtain ⟨_,h⟩:=zAE (by decide) h
   obtain ⟨h1,_⟩:=zAE (by decide) h
   exact ⟨F.keys,by simp at h1;simp [nxtC];omega,F.lost,F.sends,F.routes,F.legs,F.asl,F.journal,F.ds,F.passed⟩
 case «lost» =>
  match n,hl with
  | [k,d],_ =>
   obtain ⟨_,h⟩:=zAE (by decide) h
   obtain ⟨h1,_⟩:=zAE (by decide) h
   exact ⟨F.keys,F.days,by simp at h1;simp [nxtC];omega,F.sends,F.routes,F.legs,F.asl,F.journal,F.ds,F.passed⟩
 case «found» =>
  match n,hl with
  | [k],_ =>
   exact ⟨F.keys,F.days,Nat.le_trans (zHz _ _) F.lost,F.sends,F.routes,F.legs,F.asl,F.journal,F.ds,F.passed⟩
 case «send» =>
  match n,hl with
  | [x],_ =>
   obtain ⟨_,h⟩:=zAE (by decide) h
   obtain ⟨_,h⟩:=zAE (by decide) h
   obtain ⟨h1,_⟩:=zAE (by decide) h
   exact ⟨F.keys,F.days,F.lost,by simp at h1;simp [nxtC];omega,F.routes,F.legs,F.asl,F.journal,F.ds,F.passed⟩
 case «route» =>
  match n,hl with
  | [y,a,b],_ =>
   obtain ⟨_,h⟩:=zAE (by decide) h
   obtain ⟨h1,_⟩:=zAE (by decide) h
   refine ⟨F.keys,F.days,F.lost,F.sends,by simp at h1;simp [nxtC];omega,?_,?_,F.journal,F.ds,F.passed⟩
   ·intro r hr
    rcases List.mem_append.1 hr with hr | hr
    ·exact F.legs r hr
    ·simp at hr;subst hr;simp
   ·intro r hr l hl
    rcases List.mem_append.1 hr with hr | hr
    ·exact F.asl r hr l hl
    ·simp at hr;subst hr;simp at hl;subst hl;simp
 case «leg» =>
  match n,hl with
  | [q,a,b],_ =>
   obtain ⟨_,h⟩:=zAE (by decide) h
   obtain ⟨_,h⟩:=zAE (by decide) h
   obtain ⟨h1,_⟩:=zAE (by decide) h
   simp at h1
   refine ⟨F.keys,F.days,F.lost,F.sends,by rw [show (nxtC S .leg [q,a,b]).post.routes=putAt S.post.routes q _ from rfl,zDP];exact F.routes,?_,?_,F.journal,F.ds,F.passed⟩
   ·intro r hr
    rcases zCP hr with hr | ⟨y,hy,rfl⟩
    ·exact F.legs r hr
    ·simp [zCQ,hy] at h1;simp;omega
   ·intro r hr l hl
    rcases zCP hr with hr | ⟨y,hy,rfl⟩
    ·exact F.asl r hr l hl
    ·rcases List.mem_append.1 hl with hl | hl
     ·exact F.asl y (List.mem_of_getElem? hy) l hl
     ·simp at hl;subst hl;simp
 case «sleep» =>
  match n,hl with
  | [q,u,a,b],_ =>
   obtain ⟨_,h⟩:=zAE (by decide) h
   obtain ⟨_,h⟩:=zAE (by decide) h
   obtain ⟨h1,_⟩:=zAE (by decide) h
   simp at h1
   refine ⟨F.keys,F.days,F.lost,F.sends,by rw [show (nxtC S .sleep [q,u,a,b]).post.routes=putAt S.post.routes q _ from rfl,zDP];exact F.routes,?_,?_,F.journal,F.ds,F.passed⟩
   ·intro r hr
    rcases zCP hr with hr | ⟨y,hy,rfl⟩
    ·exact F.legs r hr
    ·show (putAt y.legs u _).length≤3
     rw [zDP];exact F.legs y (List.mem_of_getElem? hy)
   ·intro r hr l hl
    rcases zCP hr with hr | ⟨y,hy,rfl⟩
    ·exact F.asl r hr l hl
    ·rcases zCP hl with hl | ⟨z,hz,rfl⟩
     ·exact F.asl y (List.mem_of_getElem? hy) l hl
     ·simp [zIY,zCQ,hy,hz] at h1;simp;omega
 case «wait» =>
  match n,hl with
  | [p],_ =>
   exact ⟨F.keys,F.days,F.lost,F.sends,F.routes,F.legs,F.asl,F.journal,F.ds,F.passed⟩
 case «came» =>
  match n,hl with
  | [a,b],_ =>
   obtain ⟨_,h⟩:=zAE (by decide) h
   obtain ⟨_,h⟩:=zAE (by decide) h
   obtain ⟨h1,_⟩:=zAE (by decide) h
   exact ⟨F.keys,F.days,F.lost,F.sends,F.routes,F.legs,F.asl,by simp at h1;simp [nxtC];omega,F.ds,F.passed⟩
 case «skipped» =>
  match n,hl with
  | [a,b],_ =>
   obtain ⟨_,h⟩:=zAE (by decide) h
   obtain ⟨_,h⟩:=zAE (by decide) h
   obtain ⟨h1,_⟩:=zAE (by decide) h
   exact ⟨F.keys,F.days,F.lost,F.sends,F.routes,F.legs,F.asl,by simp at h1;simp [nxtC];omega,F.ds,F.passed⟩
 case «strike» =>
  match n,hl with
  | [k],_ =>
   exact ⟨F.keys,F.days,F.lost,F.sends,F.routes,F.legs,F.asl,Nat.le_trans (zHz _ _) F.journal,F.ds,F.passed⟩
 case «rate» =>
  match n,hl with
  | [r,k],_ =>
   exact ⟨F.keys,F.days,F.lost,F.sends,F.routes,F.legs,F.asl,F.journal,F.ds,F.passed⟩
 case «paid» =>
  match n,hl with
  | [p,a,b,s],_ =>
   obtain ⟨_,h⟩:=zAE (by decide) h
   obtain ⟨h1,_⟩:=zAE (by decide) h
   refine ⟨F.keys,F.days,F.lost,F.sends,F.routes,F.legs,F.asl,F.journal,by simp at h1;simp [nxtC];omega,?_⟩
   intro d hd
   rcases List.mem_append.1 hd with hd | hd
   ·exact F.passed d hd
   ·simp at hd;subst hd;simp
 case «passed» =>
  match n,hl with
  | [d,s],_ =>
   obtain ⟨_,h⟩:=zAE (by decide) h
   obtain ⟨_,h⟩:=zAE (by decide) h
   obtain ⟨h1,_⟩:=zAE (by decide) h
   simp at h1
   refine ⟨F.keys,F.days,F.lost,F.sends,F.routes,F.legs,F.asl,F.journal,by rw [show (nxtC S .passed [d,s]).ds=putAt S.ds d _ from rfl,zDP];exact F.ds,?_⟩
   intro x hx
   rcases zCP hx with hx | ⟨y,hy,rfl⟩
   ·exact F.passed x hx
   ·simp [zCh,hy] at h1;simp;omega
 case «words» =>
  match n,hl with
  | [d,a,b],_ =>
   refine ⟨F.keys,F.days,F.lost,F.sends,F.routes,F.legs,F.asl,F.journal,by rw [show (nxtC S .words [d,a,b]).ds=putAt S.ds d _ from rfl,zDP];exact F.ds,?_⟩
   intro x hx
   rcases zCP hx with hx | ⟨y,hy,rfl⟩
   ·exact F.passed x hx
   ·exact F.passed y (List.mem_of_getElem? hy)
open Go.RowKit Go.Flow
def zAs (w:World) (a:Option Addr) (l:List ByteArray):Prop :=
 ∀ k,(hk:k < l.length)→∃ b off,a=some ⟨b,off,none⟩∧b < w.heap.size∧w.cell? ⟨b,off + k,none⟩=some (.string l[k])
theorem zAs.below {w w' : World} {a:Option Addr} {l:List ByteArray} (h:zAs w a l) (hb:Below w.heap.size w w'):zAs w' a l:=fun k hk =>
 let ⟨b,off,ha,hl,hc⟩:=h k hk
 ⟨b,off,ha,Nat.lt_of_lt_of_le hl hb.size,zAA hb hc⟩
theorem zOQ {S:BSt} (F:Few S) (s:ByteArray):Few (zAy S s):=by
 unfold zAy
 split
 ·exact F
 ·rename_i c n _
  split
  ·rename_i h
   refine zOP F ?_
   unfold errL at h
   split at h
   ·assumption
   ·exact absurd h ‹_›
  ·exact F
def zBa (S:BSt) (l:List ByteArray):BSt:=l.foldl zAy S
def zCO (S:BSt):List ByteArray→List Int
 | [] => []
 | s :: l => zBb S s :: zCO (zAy S s) l
theorem zKW (S:BSt) (l:List ByteArray) (s:ByteArray):zBa S (l ++ [s])=zAy (zBa S l) s:=by simp [zBa]
theorem zKX (S:BSt) (l:List ByteArray) (s:ByteArray):zCO S (l ++ [s])=zCO S l ++ [zBb (zBa S l) s]:=by
 induction l generalizing S with
 | nil => rfl
 | cons x l ih => simp [zCO,zBa,ih]
theorem zLq (S:BSt) (l:List ByteArray):(zCO S l).length=l.length:=by
 induction l generalizing S with
 | nil => rfl
 | cons x l ih => simp [zCO,ih]
theorem zHM {S:BSt} (F:Few S) (l:List ByteArray):Few (zBa S l):=by
 induction l generalizing S with
 | nil => exact F
 | cons x l ih => exact ih (zOQ F x)
theorem OwnL.keepG {E:TypeId} {size base g:Nat} {w w' : World} {a:Option Addr} {c n:Nat} {xs:List Value} (h:OwnL E size base w a c n xs) (hb:g < base) (k:KeepG g w w'):OwnL E size base w' a c n xs:=by
 refine ⟨h.1,?_⟩
 rcases h.2 with h1 | ⟨g',cap,cur,hv,hbg,hg,hnc,hcm,hcs,ht⟩
 ·exact .inl h1
 ·have hC:Cells w g' cur E:=hg
  exact .inr ⟨g',cap,cur,hv,hbg,hC.keepG k (by omega),hnc,hcm,hcs,ht⟩
theorem zKj:(Tryz.prog.info? 59).map (fun i => (i.zero,i.size,i.bytes))=some (some (.int .i64 0),1,8):=by kernel_rfl
theorem zP8:Elem Tryz.prog 58 59 (.int .i64 0) 1 8:=⟨Tryz.underlying58,info_parts zKj,rfl,by decide⟩
def zEi (g:Nat):Option Addr→Nat
 | none => g
 | some x => x.block
section
variable {P:Program} {t E:TypeId} {z:Value} {size bytes:Nat} {ops:Array Oper} {rest:List Oper} {o:Oper} {a:Act} {Q:Exit→Act→World→Prop}
theorem zGI {W:World} {cs:Array Value} {E2:TypeId} (el:Elem P t E z size bytes) (hgd:o.guard=none) (s x:Operand) (ho:o.op=.call { callee:=.builtin .append,args:=#[s,x],argTypes:=#[t,t] })
  (base:Nat) (a0:Option Addr) (n c0:Nat) (xs:List Value) (hs:a.eval s=.slice a0 n c0) (hown:OwnL E size base W a0 c0 n xs)
  (m c:Nat) (hx:a.eval x=.slice (some ⟨W.heap.size,0,none⟩) m c) (hl:cs.size=m * size) (h1:∀ u ∈ cs.toList,u.oneCell'=true)
  (h63:n + m≤maxLen) (hbytes:(n + m) * bytes≤140737488355328) (hbase:base≤W.heap.size)
  (h:∀ a' c' w',OwnL E size base w' a' c' (n + m) (xs ++ cs.toList)→Below base W w' →
   (∀ g S A,g < base→StAt (zEi g a0) W g S A→StAt (zEi g a') w' g S A)→wpList P ops Q rest (a.put o.dst (.slice a' (n + m) c')) w') :
  wpList P ops Q (o :: rest) a (W.alloc (.cells cs E2)):=by
 obtain ⟨i,hi,hz0,hz1,hz2⟩:=el.info
 refine wpList_append_own_at _ hgd s x t ho base E i z size bytes el.slice hi hz0 hz1 hz2 el.cells el.pos (.slice a0 n c0) n xs hs (hown.alloc _) ⟨W.heap.size,0,none⟩ m c cs.toList hx (by simpa using hl) ?_ h1 h63 hbytes (by simp;omega) ?_
 ·intro j u hu
  rw [addr_add,World.cell?_alloc_at _ _ _ _ rfl,Nat.zero_add]
  simpa using hu
 ·intro v' w' h2 h3 h4 h5
  have hv:∃ a' c',v'=.slice a' (n + m) c':=by
   rcases h2.2 with ⟨rfl,hnm⟩ | ⟨g,cap,cur,rfl,_⟩
   ·exact ⟨none,0,by rw [hnm]⟩
   ·exact ⟨_,_,rfl⟩
  obtain ⟨a',c',rfl⟩:=hv
  have hb:Below base W w':=((Below.refl base W).alloc hbase _).trans (zAz (hown.alloc _) (by simp;omega) h3)
  have o2:OwnL E size base w' a' c' (n + m) (xs ++ cs.toList):=h2
  have hz:W.heap.size + 1≤w'.heap.size:=by have:=h3.size;simpa using this
  refine h a' c' w' o2 hb ?_
  intro g S A hg st
  have hlt:=st.lt
  have hold:=st.old
  have h6:zEi g a' < w'.heap.size∧(zEi g a'=zEi g a0∨W.heap.size≤zEi g a'∨zEi g a'=g):=by
   cases a' with
   | none => exact ⟨by show g < _;omega,.inr (.inr rfl)⟩
   | some x' =>
    refine ⟨o2.old rfl,?_⟩
    rcases h5 with h5 | h5
    ·cases a0 with
     | none => simp [Value.ownBlock] at h5
     | some x0 =>
      simp [Value.ownBlock] at h5
      exact .inl h5
    ·simp [Value.ownBlock] at h5
     exact .inr (.inl (by show _≤x'.block;omega))
  refine ⟨(hb.block g hg).trans st.cells,Lists.unmask (hd:=zEi g a0) (g:=g) (by rw [zAJ];omega) (by rw [zAJ];omega) (st.lists.below ?_),h6.1⟩
  rw [zAJ]
  refine ⟨hb.os,hb.tape,hb.output,by simp only [zAJ];omega,fun k hk => ?_⟩
  by_cases e1:k≤g∨k=zEi g a0
  ·rw [zAj e1 hk,zAj e1 (by rw [zAJ];omega)]
  ·have e2:k≠zEi g a0:=fun e => e1 (.inr e)
   rw [zB4 W (by omega) e2,zB4 _ (by omega) e2,zB4 w' (by omega) (by omega),h3.block k (by simp;omega) ?_,((Below.refl W.heap.size W).alloc (Nat.le_refl _) _).block k hk]
   intro e
   cases a0 with
   | none => simp [Value.ownBlock] at e
   | some x0 =>
    simp [Value.ownBlock] at e
    exact e2 e
end
theorem zJc (a:Option Addr) (c:Nat) (l:List ByteArray) (w:World) (hl:zAs w a l) (hs:∀ s ∈ l,s.size < 4294967281) (h50:l.length≤1000) (hv:Vars w) :
  Calls Tryz.prog 82 #[.slice a l.length c] w fun e w' => ∃ g ae ce A,e=.returned (.tuple #[.pointer (some ⟨g,0,none⟩),.slice ae l.length ce])∧w.heap.size≤g∧StAt (zEi g ae) w' g (zBa BSt.begun l) A ∧
   OwnL 59 1 w.heap.size w' ae ce l.length ((zCO BSt.begun l).map (Value.int .i64))∧Below w.heap.size w w':=by
 have h8:=hv.lt
 go_enter Tryz.func82,Tryz.ntmps82
 go_wp2
 go_loopw [3,5,15] (fun ev _ i X => ∃ (k:Nat) (A:Adr) (ae:Option Addr) (ce:Nat),k≤l.length∧i=.int .i64 k∧ev=.slice ae k ce∧StAt (zEi w.heap.size ae) X w.heap.size (zBa BSt.begun (l.take k)) A∧OwnL 59 1 (w.heap.size + 1) X ae ce k ((zCO BSt.begun (l.take k)).map (Value.int .i64))∧Below w.heap.size w X) (fun _ _ i _ => l.length - (intOf i).toNat)
 case atStart =>
  refine ⟨0,⟨none,0,none,0,none,0,none,0,none,0,none,0,none,0⟩,none,0,Nat.zero_le _,rfl,rfl,?_,OwnL.nil _ _ _ _,(Below.refl _ _).alloc (Nat.le_refl _) _⟩
  refine ⟨Cells.new w _ _,⟨zAI.nil _,zAI.nil _,zAI.nil _,zAI.nil _,zAI.nil _,zAI.nil _,zAI.nil _,fun _ => rfl,fun _ => rfl,fun _ => rfl,fun _ => rfl,fun _ => rfl,fun _ => rfl,fun _ => rfl⟩,by simp [zEi]⟩
 case round =>
  obtain ⟨k,A,ae,ce,hk,rfl,rfl,st,own,bX⟩:=hrel
  by_cases hlt:k < l.length
  ·have hltI:(k:Int) < (l.length:Int):=by omega
   have iw:IntKind.i64.wrap ((k:Int) + 1)=(k:Int) + 1:=IntWalk.i64_in _ (by omega)
   obtain ⟨b,off,ha,hbl,hc⟩:=hl k hlt
   subst ha
   have hc' : wr.cell? ⟨b,off + k,none⟩=some (.string l[k]):=(bX.cell (p:=⟨b,off + k,none⟩) hbl).trans hc
   clear hc
   have line:=zNy w.heap.size _ A l[k] (hs _ (List.getElem_mem hlt)) wr st (zHM Few.begun _) (hv.under (bX.mono h8)) h8
   have eS:zAy (zBa BSt.begun (l.take k)) l[k]=zBa BSt.begun (l.take (k + 1)):=by rw [List.take_succ_eq_append_getElem hlt,zKW]
   have eE:zCO BSt.begun (l.take (k + 1))=zCO BSt.begun (l.take k) ++ [zBb (zBa BSt.begun (l.take k)) l[k]]:=by rw [List.take_succ_eq_append_getElem hlt,zKX]
   have HE:=Lib.hid eE
   clear eE
   go_wp2_with fail
   go_at_call 125
   refine line.mono ?_
   rintro e w1 ⟨rfl,kg,A2,st2⟩
   rw [eS] at st2
   clear eS line
   have own1:=own.keepG (by omega) kg
   have z1:=st2.lt
   go_wp2_with (at_builtin;refine zGI zP8 rfl _ _ rfl (w.heap.size + 1) ae k ce _ rfl own1 1 1 rfl rfl (fun u hu => ?c1) ?c2 ?c3 ?c4 ?_)
   case c1 => simp at hu;subst hu;rfl
   case c2 => simp [maxLen];omega
   case c3 => omega
   case c4 => exact z1
   intro a' c' w2 own2 b2 hst
   have st3:=hst w.heap.size _ _ (by omega) st2
   go_wp2_with fail
   go_round
   case rel => exact ⟨k + 1,A2,a',c',by omega,by go_num,rfl,st3,by rw [HE.out];simpa using own2,bX.trans ((kg.under (Nat.le_refl _)).trans (b2.mono (by omega)))⟩
   case measure => simp [intOf];omega
  ·obtain rfl:k=l.length:=by omega
   rw [List.take_length] at st own
   go_wp2
   go_ret2
   exact ⟨_,ae,ce,A,rfl,Nat.le_refl _,st,own.base_le (by omega),bX⟩
theorem zHE (a:Option Addr) (xs:List ByteArray) (c:Nat) (g:FuncId) (first cap:Array Value) (p:ByteArray→Bool) (w:World) (hl:xs.length≤9223372036854775807) (hx:zAs w a xs)
  (hg:∀ args w,Sem.run Tryz.prog (callFunc g args) w=.ok (.enter g args) w) (hp:∀ x ∈ xs,zAc Tryz.prog w g first cap (.string x) (p x)) :
  Calls Tryz.prog 258 #[.slice a xs.length c,.func (.func g) first cap] w fun e w' => e=.returned (.int .i64 (idxBy p xs 0))∧Below w.heap.size w w':=by
 go_enter Tryz.func258,Tryz.ntmps258
 go_wp2
 go_loopw [5,8] (fun _ i wr => ∃ k:Nat,k≤xs.length∧i=.int .i64 k∧Below w.heap.size w wr∧idxBy p xs 0=idxBy p (xs.drop k) k) (fun _ i _ => xs.length - (intOf i).toNat)
 case atStart => exact ⟨0,Nat.zero_le _,rfl,Below.refl _ _,by simp⟩
 case round =>
  obtain ⟨k,hk,rfl,hb,hi⟩:=hrel
  have Hi:=Lib.hid hi
  clear hi
  by_cases hlt:k < xs.length
  ·obtain ⟨b,off,rfl,hbl,hc⟩:=hx k hlt
   have hm:=hp xs[k] (List.getElem_mem hlt)
   have hc' : wr.cell? ⟨b,off + k,none⟩=some (.string xs[k]):=(hb.cell (p:=⟨b,off + k,none⟩) hbl).trans hc
   clear hc
   go_wp2_with (refine (hm wr hb).mono ?_;rintro e w1 ⟨rfl,hb1⟩)
   ·have h1:p xs[k]=true:=by assumption
    go_ret
    exact ⟨by rw [Hi.out,idxBy_hit p xs k hlt h1];rfl,hb.trans (hb1.mono hb.size)⟩
   ·have h1:p xs[k]=false:=by assumption
    go_roundw
    case rel => exact ⟨k + 1,by omega,by go_num,hb.trans (hb1.mono hb.size),by rw [Hi.out,idxBy_miss p xs k hlt h1]⟩
    case measure => simp [intOf];omega
  ·go_wp2
   go_ret
   exact ⟨by rw [Hi.out,zBQ p xs k k (by omega)];rfl,hb⟩
theorem zEz (a:Option Addr) (xs:List ByteArray) (c:Nat) (g:FuncId) (first cap:Array Value) (p:ByteArray→Bool) (w:World) (hl:xs.length≤9223372036854775807) (hx:zAs w a xs)
  (hg:∀ args w,Sem.run Tryz.prog (callFunc g args) w=.ok (.enter g args) w) (hp:∀ x ∈ xs,zAc Tryz.prog w g first cap (.string x) (p x)) :
  Calls Tryz.prog 197 #[.slice a xs.length c,.func (.func g) first cap] w fun e w' => e=.returned (.bool (xs.any p))∧Below w.heap.size w w':=by
 rw [← zBJ p xs 0]
 have hi:=zBP p xs 0
 go_enter Tryz.func197,Tryz.ntmps197
 go_wp2_with (go_at_call 258;refine (zHE a xs c g first cap p w hl hx hg hp).mono ?_;rintro e w1 ⟨rfl,hb1⟩;obtain ⟨hc1,hf1,hz1⟩:=zAk hb1;(try simp at hz1);(try (have hy0:w.heap.size < w1.heap.size:=by omega));(try (have hy1:w.heap.size + 1 < w1.heap.size:=by omega));(try (have hy2:w.heap.size + 2 < w1.heap.size:=by omega)))
 go_ret
 exact ⟨rfl,hb1⟩
theorem zLH (x:ByteArray) (B:Nat) (g:FuncId) (first cap:Array Value) (q:Bool) (w:World) (hB:B < w.heap.size) (hc:w.cell? ⟨B,0,none⟩=some (.func (.func g) first cap))
  (hg:∀ args w,Sem.run Tryz.prog (callFunc g args) w=.ok (.enter g args) w) (hm:zAc Tryz.prog w g first cap (.string x) q):zAc Tryz.prog w 198 #[] #[.pointer (some ⟨B,0,none⟩)] (.string x) !q:=by
 intro w' hb'
 have hc' : w'.cell? ⟨B,0,none⟩=some (.func (.func g) first cap):=(hb'.cell (p:=⟨B,0,none⟩) hB).trans hc
 have hBw:B < w'.heap.size:=Nat.lt_of_lt_of_le hB hb'.size
 clear hc
 show Calls Tryz.prog 198 #[.string x,.pointer (some ⟨B,0,none⟩)] w' _
 go_enter Tryz.func198,Tryz.ntmps198
 go_wp2_with (refine (hm _ hb').mono ?_;rintro e w1 ⟨rfl,hb1⟩)
 go_ret
 exact ⟨rfl,hb1⟩
theorem zPg (a:Option Addr) (xs:List ByteArray) (c:Nat) (g:FuncId) (first cap:Array Value) (p:ByteArray→Bool) (w:World) (hl:xs.length≤9223372036854775807) (hx:zAs w a xs)
  (hg:∀ args w,Sem.run Tryz.prog (callFunc g args) w=.ok (.enter g args) w) (hp:∀ x ∈ xs,zAc Tryz.prog w g first cap (.string x) (p x)) :
  Calls Tryz.prog 140 #[.slice a xs.length c,.func (.func g) first cap] w fun e w' => e=.returned (.bool (xs.all p))∧Below w.heap.size w w':=by
 have e1:xs.all p = !(xs.any fun x => !p x):=by rw [List.all_eq_not_any_not]
 rw [e1]
 have hb0:Below w.heap.size w (w.alloc (.cells #[.func (.func g) first cap] 244)):=(Below.refl _ _).alloc (Nat.le_refl _) _
 go_enter Tryz.func140,Tryz.ntmps140
 go_wp2_with (go_at_call 197;refine (zEz a xs c 198 #[] #[.pointer (some ⟨w.heap.size,0,none⟩)] (fun x => !p x) _ hl (hx.below hb0) (enters Tryz.func198 (by kernel_rfl) rfl) (fun x hxx => zLH x w.heap.size g first cap (p x) _ (by simp) (by rw [World.cell?_alloc_at _ _ _ _ rfl];rfl) hg ((hp x hxx).below hb0))).mono ?_;rintro e w1 ⟨rfl,hb1⟩;obtain ⟨hc1,hf1,hz1⟩:=zAk hb1;(try simp at hz1);(try (have hy0:w.heap.size < w1.heap.size:=by omega));(try (have hy1:w.heap.size + 1 < w1.heap.size:=by omega));(try (have hy2:w.heap.size + 2 < w1.heap.size:=by omega)))
 go_ret
 exact ⟨by simp,hb0.trans (hb1.mono (by simp))⟩
def zDH (s:ByteArray):Bool:=decide (s.size≤80)
def zBF (l:List ByteArray):Int:=if decide (l.length≤50) && l.all zDH then 0 else 3
theorem zMd (x:ByteArray) (w:World):zAc Tryz.prog w 139 #[.int .i64 80] #[] (.string x) (zDH x):=by
 intro w' hb'
 show Calls Tryz.prog 139 #[.int .i64 80,.string x] w' _
 go_enter Tryz.func139,Tryz.ntmps139
 go_wp2
 go_ret
 exact ⟨by simp [zDH];omega,Below.refl _ _⟩
theorem zET (a:Option Addr) (c:Nat) (l:List ByteArray) (w:World) (hl:zAs w a l) (hn:l.length≤9223372036854775807):Calls Tryz.prog 81 #[.slice a l.length c] w fun e w' => e=.returned (.int .i64 (zBF l))∧Below w.heap.size w w':=by
 have hall:=zPg a l c 139 #[.int .i64 80] #[] zDH w hn hl (enters Tryz.func139 (by kernel_rfl) rfl) (fun x _ => zMd x w)
 obtain ⟨q,hq⟩:∃ q,l.all zDH=q:=⟨_,rfl⟩
 rw [hq] at hall
 have Hq:=Lib.hid hq
 clear hq
 by_cases h50:l.length≤50
 ·have hgt:¬ (50 < (l.length:Int)):=by omega
  go_enter Tryz.func81,Tryz.ntmps81
  go_wp2_with fail
  go_at_call 140
  refine hall.mono ?_
  rintro e w1 ⟨rfl,hb⟩
  cases q
  ·go_wp2
   go_ret
   exact ⟨by unfold zBF;rw [Hq.out,Bool.and_false];rfl,hb⟩
  ·go_wp2
   go_ret
   exact ⟨by unfold zBF;rw [Hq.out,decide_eq_true h50];rfl,hb⟩
 ·have hgt:50 < (l.length:Int):=by omega
  go_enter Tryz.func81,Tryz.ntmps81
  go_wp2
  go_ret
  exact ⟨by unfold zBF;rw [decide_eq_false h50];rfl,Below.refl _ _⟩
structure Shows (u w:World):Prop where
 size:u.heap.size≤w.heap.size
 cell:∀ p v,u.cell? p=some v→w.cell? p=some v
theorem Shows.refl (w:World):Shows w w:=⟨Nat.le_refl _,fun _ _ h => h⟩
theorem Shows.trans {a b c:World} (h:Shows a b) (k:Shows b c):Shows a c:=⟨Nat.le_trans h.size k.size,fun p v q => k.cell p v (h.cell p v q)⟩
theorem Shows.below {u w:World} (h:Below u.heap.size u w):Shows u w:=⟨h.size,fun _ _ q => zAA h q⟩
theorem SrcAt.shows {u w:World} {a:Option Addr} {vs:List Value} (h:SrcAt u a vs) (s:Shows u w):SrcAt w a vs:=fun j x hx =>
 let ⟨b,off,ha,hc⟩:=h j x hx
 ⟨b,off,ha,s.cell _ _ hc⟩
theorem IntsAt.shows {u w:World} {a:Option Addr} {xs:List Int} (h:IntsAt u a xs) (s:Shows u w):IntsAt w a xs:=fun k hk =>
 let ⟨b,off,ha,hlt,hc⟩:=h k hk
 ⟨b,off,ha,Nat.lt_of_lt_of_le hlt s.size,s.cell _ _ hc⟩
theorem zAX.shows {u w:World} {a:Option Addr} {xs:List (Int × Int)} (h:zAX u a xs) (s:Shows u w):zAX w a xs:=fun k hk =>
 let ⟨b,off,ha,hlt,h0,h1⟩:=h k hk
 ⟨b,off,ha,Nat.lt_of_lt_of_le hlt s.size,s.cell _ _ h0,s.cell _ _ h1⟩
def zHX {α:Type} (R:World→α→List Value→Prop):Prop:=∀ u w x cs,R u x cs→Shows u w→R w x cs
theorem zF1:zHX RI:=fun _ _ _ _ h _ => h
theorem zJX:zHX RP:=fun _ _ _ _ h _ => h
theorem zLX:zHX RK:=fun _ _ _ _ h _ => h
theorem zLY:zHX RE:=fun _ _ _ _ h _ => h
section
variable {α:Type} {size:Nat} {R:World→α→List Value→Prop} {u w:World} {vs:List Value} {l:List α}
theorem zAY.shows (hR:zHX R) (h:zAY size R u vs l) (s:Shows u w):zAY size R w vs l:=⟨h.1,fun k hk => hR _ _ _ _ (h.2 k hk) s⟩
theorem zAI.shows (hR:zHX R) {a:Option Addr} (h:zAI size R u a l) (s:Shows u w):zAI size R w a l :=
 let ⟨vs,h1,h2⟩:=h
 ⟨vs,h1.shows hR s,h2.shows s⟩
end
theorem zJY:zHX RL:=fun _ _ _ _ ⟨a,c,e,h1,h2⟩ s => ⟨a,c,e,h1.shows s,h2⟩
theorem zGT:zHX RR:=fun _ _ _ _ ⟨a,c,e,h1,h2⟩ s => ⟨a,c,e,h1.shows zJY s,h2⟩
theorem zH8:zHX RD:=fun _ _ _ _ ⟨a,c,e,h1,h2⟩ s => ⟨a,c,e,h1.shows s,h2⟩
theorem Lists.shows {u w:World} {S:BSt} {A:Adr} (h:Lists u S A) (s:Shows u w):Lists w S A :=
 ⟨h.keys.shows zLX s,h.days.shows zF1 s,h.lost.shows zJX s,h.sends.shows zF1 s,h.routes.shows zGT s,h.journal.shows zLY s,h.ds.shows zH8 s,h.nk,h.nd,h.nl,h.ns,h.nr,h.nj,h.na⟩
def hidW (H:Nat→Prop) [DecidablePred H] (w:World):World:={ w with heap:=w.heap.mapIdx fun k o => if H k then .cells #[] 0 else o }
section
variable {H H' : Nat→Prop} [DecidablePred H] [DecidablePred H']
theorem zFL (w:World):(hidW H w).heap.size=w.heap.size:=by simp [hidW]
theorem zIz (w:World) (k:Nat):(hidW H w).heap[k]?=(w.heap[k]?).map fun o => if H k then .cells #[] 0 else o:=by
 simp only [hidW]
 rw [Array.getElem?_mapIdx]
theorem zDm (w:World) {p:Addr} (h:¬ H p.block):(hidW H w).cell? p=w.cell? p:=by
 have:(hidW H w).heap[p.block]?=w.heap[p.block]?:=by
  rw [zIz]
  cases w.heap[p.block]? with
  | none => rfl
  | some o => rw [Option.map_some,if_neg h]
 simp only [World.cell?,this]
theorem zJq {w:World} {p:Addr} {v:Value} (h:(hidW H w).cell? p=some v):¬ H p.block∧w.cell? p=some v:=by
 by_cases e:H p.block
 ·exfalso
  have hg:=zIz (H:=H) w p.block
  cases ho:w.heap[p.block]? with
  | none =>
   rw [ho,Option.map_none] at hg
   simp [World.cell?,hg] at h
  | some o =>
   rw [ho,Option.map_some,if_pos e] at hg
   simp only [World.cell?,hg] at h
   split at h <;> simp at h
 ·exact ⟨e,by rw [← zDm w e];exact h⟩
theorem zLb {u w:World} (hs:u.heap.size≤w.heap.size) (h:∀ k,k < u.heap.size→¬ H k→¬ H' k∧w.heap[k]?=u.heap[k]?):Shows (hidW H u) (hidW H' w) :=
 ⟨by rw [zFL,zFL];exact hs,fun p v q => by
  obtain ⟨h1,h2⟩:=zJq q
  obtain ⟨h3,h4⟩:=h _ (zBl h2) h1
  rw [zDm w h3]
  rw [World.cell?_of_block h4];exact h2⟩
theorem zLa (w:World):Shows (hidW H w) w:=⟨by rw [zFL];exact Nat.le_refl _,fun _ _ q => (zJq q).2⟩
end
def hidL (bs:List Nat) (w:World):World:=hidW (fun b => b ∈ bs) w
theorem zAn {bs bs' : List Nat} {u w:World} (hs:u.heap.size≤w.heap.size) (h:∀ k,k < u.heap.size→k ∉ bs→k ∉ bs'∧w.heap[k]?=u.heap[k]?):Shows (hidL bs u) (hidL bs' w):=zLb hs h
theorem zBD (bs:List Nat) (w:World):Shows (hidL bs w) w:=zLa w
theorem zBe {bs bs' : List Nat} (w:World) (h:∀ b ∈ bs',b ∈ bs):Shows (hidL bs w) (hidL bs' w):=zAn (Nat.le_refl _) fun k _ hk => ⟨fun e => hk (h k e),rfl⟩
theorem OwnL.hid {E:TypeId} {size base:Nat} {w:World} {a:Option Addr} {c n:Nat} {xs:List Value} (h:OwnL E size base w a c n xs) {bs:List Nat} (hb:∀ x,a=some x→x.block ∉ bs):OwnL E size base (hidL bs w) a c n xs:=by
 refine ⟨h.1,?_⟩
 rcases h.2 with h1 | ⟨g',cap,cur,hv,hbg,hh,hr⟩
 ·exact .inl h1
 ·refine .inr ⟨g',cap,cur,hv,hbg,?_,hr⟩
  have hne:¬ (g' ∈ bs):=by
   have:=(Value.slice.inj hv).1
   exact hb _ this
  show (hidW (fun b => b ∈ bs) w).heap[g']?=_
  rw [zIz,hh,Option.map_some,if_neg hne]
theorem OwnL.low {E:TypeId} {size base:Nat} {w:World} {a:Option Addr} {c n:Nat} {xs:List Value} (h:OwnL E size base w a c n xs):∀ x,a=some x→base≤x.block∧x.block < w.heap.size∧x=⟨x.block,0,none⟩:=by
 intro x hx
 rcases h.form with ⟨h1,_⟩ | ⟨g,h1,h2,h3,_⟩
 ·rw [h1] at hx;cases hx
 ·rw [h1] at hx;cases hx;exact ⟨h2,h3,rfl⟩
def zPe (g:Nat):Option Addr→Nat
 | none => g
 | some x => x.block
end Go.Proofs.YticjeianiahppaaGreatDoor
