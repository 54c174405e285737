/- The session book: contracts of the program and of the laws' helpers, joined (Nj). -/
import Derived.Test.YticjeianiahppaaGreatDoorBZ
import Derived.Laws.Concat
set_option linter.unusedVariables false
set_option linter.unusedSimpArgs false
set_option linter.unnecessarySimpa false
set_option maxRecDepth 100000
namespace Go.Proofs.YticjeianiahppaaGreatDoor
open Go.RowKit Go.Flow Go.Shelf
theorem zHU {T e:TypeId} {B b:Nat} {bs:List Value} {w w' : World} (h:Lib.IsBuilderF T e B b bs w) (hb:Below w.heap.size w w'):Lib.IsBuilderF T e B b bs w':=by
 have k:∀ p,Lib.BuilderAtF T e B b p bs w→Lib.BuilderAtF T e B b p bs w':=fun p ⟨h1,v,h2,h3,h4⟩ =>
  ⟨h1,v,(hb.block b (Array.getElem?_eq_some_iff.1 h2).1).trans h2,h3.kept (row:=none) ⟨hb.os,hb.tape,hb.output,hb.size,fun k hk _ => hb.block k hk⟩ (by cases hv:v.ownBlock with
   | none => exact .inl rfl
   | some x => exact .inr (by simp)),h4⟩
 exact h.elim (fun x => .inl (k _ x)) fun x => .inr (k _ x)
def zDS (ws:List ByteArray):List UInt8:=Lib.join (ws.map fun s => s.data.toList) [32]
theorem zKg (g c:Nat) (base:Nat) (ws:List ByteArray) (w:World) (own:OwnL 9 1 base w (some ⟨g,0,none⟩) c ws.length (ws.map Value.string)) (hn:ws.length≤1000) (hj:(zDS ws).length≤1000000) :
  Calls Tryz.prog 108 #[.slice (some ⟨g,0,none⟩) ws.length c] w fun e w' => e=.returned (.string ⟨(zDS ws).toArray⟩)∧Below w.heap.size w w':=by
 have hs:=SrcAt.own own
 have hc:∀ (j:Nat) x,ws[j]?=some x→w.cell? ⟨g,0 + j,none⟩=some (.string x):=fun j x hx => by
  obtain ⟨b,off,e,hc⟩:=hs j (.string x) (by rw [List.getElem?_map,hx];rfl)
  simp only [Option.some.injEq,Addr.mk.injEq,and_true] at e
  obtain ⟨rfl,rfl⟩:=e
  exact hc
 have hcap:=own.capped
 have jn:=Tryz.strings_Join g 0 c ws ⟨#[32]⟩ w hc hcap.2.2.2 (by omega) hcap.1 (by show (zDS ws).length≤_;omega)
 go_enter Tryz.func108,Tryz.ntmps108
 go_wp2_with fail
 go_at_call 169
 refine jn.mono ?_
 rintro e w1 ⟨rfl,hb⟩
 go_wp2
 go_ret
 exact ⟨rfl,hb⟩
theorem zGr (B b g c base:Nat) (bs:List UInt8) (ws:List ByteArray) (w:World) (h:Lib.IsBuilderF 207 5 B b (Lib.byteCells bs) w) (own:OwnL 9 1 base w (some ⟨g,0,none⟩) c ws.length (ws.map Value.string)) (hn:ws.length≤1000) (hj:(zDS ws).length≤1000000) (hbs:bs.length≤10000000) (hB:B≤w.heap.size) :
  Calls Tryz.prog 106 #[.slice (some ⟨g,0,none⟩) ws.length c,.pointer (some ⟨b,0,none⟩)] w fun e w' => e=.returned (.tuple #[])∧Lib.IsBuilderF 207 5 B b (Lib.byteCells (bs ++ (zDS ws ++ [10]))) w'∧Below B w w'∧Lib.OthersKept 5 (some b) w w':=by
 go_enter Tryz.func106,Tryz.ntmps106
 go_wp2_with fail
 go_at_call 108
 refine (zKg g c base ws w own hn hj).mono ?_
 rintro e w1 ⟨rfl,hb⟩
 have hsz:(zDS ws).length + 1=(⟨(zDS ws).toArray⟩ ++ ⟨#[10]⟩:ByteArray).size:=by simp [ByteArray.size]
 have hcat:∀ W:World,(Op.stringOp .add ⟨(zDS ws).toArray⟩ ⟨#[10]⟩).run Tryz.prog W=.ok (.string (⟨(zDS ws).toArray⟩ ++ ⟨#[10]⟩)) W:=fun W => run_string_add_sum W _ _ (by show (zDS ws).toArray.size + 1≤_;simp;omega)
 have wr:=zLU B b bs (⟨(zDS ws).toArray⟩ ++ ⟨#[10]⟩) w1 (zHU h hb) (by rw [← hsz];omega) (Nat.le_trans hB hb.size)
 go_wp2_with fail
 go_at_call 107
 refine wr.mono ?_
 rintro e w2 ⟨rfl,h2,hb2,ok⟩
 go_wp2
 refine bodyPost_end (results_none rfl _ _ _) rfl ⟨rfl,?_,(hb.mono hB).trans hb2,?_⟩
 ·simpa using h2
 ·exact fun k o hk h1 h2 => ok k o ((hb.block k (Array.getElem?_eq_some_iff.1 hk).1).trans hk) h1 h2
theorem OwnL.others {base b:Nat} {w w' : World} {a:Option Addr} {c n:Nat} {xs:List Value} (h:OwnL 9 1 base w a c n xs) (hb:b < base) (k:Lib.OthersKept 5 (some b) w w'):OwnL 9 1 base w' a c n xs:=by
 refine ⟨h.1,?_⟩
 rcases h.2 with h1 | ⟨g',cap,cur,hv,hbg,hg,hr⟩
 ·exact .inl h1
 ·refine .inr ⟨g',cap,cur,hv,hbg,k g' _ hg (by simp;omega) (fun c fz e => ?_),hr⟩
  have:=(Obj.cells.inj e).2.1
  exact absurd this (by decide)
section
variable {P:Program} {t E:TypeId} {z:Value} {size bytes:Nat} {ops:Array Oper} {rest:List Oper} {o:Oper} {a:Act} {Q:Exit→Act→World→Prop}
theorem zAu {W:World} {cs:Array Value} {E2:TypeId} (el:Elem P t E z size bytes) (hgd:o.guard=none) (s x:Operand) (ho:o.op=.call { callee:=.builtin .append,args:=#[s,x],argTypes:=#[t,t] })
  (base:Nat) (a0:Option Addr) (n c0:Nat) (xs:List Value) (hs:a.eval s=.slice a0 n c0) (hown:OwnL E size base W a0 c0 n xs)
  (m c:Nat) (hx:a.eval x=.slice (some ⟨W.heap.size,0,none⟩) m c) (hl:cs.size=m * size) (h1:∀ u ∈ cs.toList,u.oneCell'=true)
  (h63:n + m≤maxLen) (hbytes:(n + m) * bytes≤140737488355328) (hbase:base≤W.heap.size)
  (h:∀ a' c' w',OwnL E size base w' a' c' (n + m) (xs ++ cs.toList)→Below base W w'→W.heap.size≤w'.heap.size →
   (∀ b,b < W.heap.size→(∀ y,a0=some y→y.block≠b)→w'.heap[b]?=W.heap[b]?∧∀ y,a'=some y→y.block≠b)→wpList P ops Q rest (a.put o.dst (.slice a' (n + m) c')) w') :
  wpList P ops Q (o :: rest) a (W.alloc (.cells cs E2)):=by
 obtain ⟨i,hi,hz0,hz1,hz2⟩:=el.info
 refine wpList_append_own_at _ hgd s x t ho base E i z size bytes el.slice hi hz0 hz1 hz2 el.cells el.pos (.slice a0 n c0) n xs hs (hown.alloc _) ⟨W.heap.size,0,none⟩ m c cs.toList hx (by simpa using hl) ?_ h1 h63 hbytes (by simp;omega) ?_
 ·intro j u hu
  rw [addr_add,World.cell?_alloc_at _ _ _ _ rfl,Nat.zero_add]
  simpa using hu
 ·intro v' w' h2 h3 h4 h5
  have hv:∃ a' c',v'=.slice a' (n + m) c':=by
   rcases h2.2 with ⟨rfl,hnm⟩ | ⟨g,cap,cur,rfl,_⟩
   ·exact ⟨none,0,by rw [hnm]⟩
   ·exact ⟨_,_,rfl⟩
  obtain ⟨a',c',rfl⟩:=hv
  have hz:W.heap.size + 1≤w'.heap.size:=by have:=h3.size;simpa using this
  refine h a' c' w' h2 (((Below.refl base W).alloc hbase _).trans (zAz (hown.alloc _) (by simp;omega) h3)) (by omega) ?_
  intro b hb hne
  refine ⟨?_,fun y hy => ?_⟩
  ·rw [h3.block b (by simp;omega) ?_,((Below.refl W.heap.size W).alloc (Nat.le_refl _) _).block b hb]
   intro e
   cases a0 with
   | none => simp [Value.ownBlock] at e
   | some x0 =>
    simp [Value.ownBlock] at e
    exact hne x0 rfl e.symm
  ·subst hy
   rcases h5 with h5 | h5
   ·cases a0 with
    | none => simp [Value.ownBlock] at h5
    | some x0 =>
     simp [Value.ownBlock] at h5
     rw [h5];exact hne x0 rfl
   ·simp [Value.ownBlock] at h5
    omega
end
structure Rep (b:Nat) (X:World) (L:Fin 4→Option Addr × Nat × List ByteArray):Prop where
 cb:Cells X b #[.pointer none,.slice none 0 0] 207
 own:∀ i,OwnL 9 1 (b + 1) X (L i).1 (L i).2.1 (L i).2.2.length ((L i).2.2.map Value.string)
 ap:∀ i j,i≠j→Apart (L i).1 (L j).1
theorem Rep.below {b:Nat} {X Y:World} {L:Fin 4→Option Addr × Nat × List ByteArray} (h:Rep b X L) (hb:Below X.heap.size X Y):Rep b Y L:=⟨h.cb.below hb,fun i => (h.own i).kept hb,h.ap⟩
def setF (L:Fin 4→Option Addr × Nat × List ByteArray) (i:Fin 4) (x:Option Addr × Nat × List ByteArray):Fin 4→Option Addr × Nat × List ByteArray:=fun j => if j=i then x else L j
theorem Rep.app {b:Nat} {X Y:World} {L:Fin 4→Option Addr × Nat × List ByteArray} (h:Rep b X L) (i:Fin 4) {a' : Option Addr} {c' : Nat} {ws:List ByteArray} (o:OwnL 9 1 (b + 1) Y a' c' ws.length (ws.map Value.string)) (hb:Below (b + 1) X Y)
  (hz:X.heap.size≤Y.heap.size) (hk:∀ d,d < X.heap.size→(∀ y,(L i).1=some y→y.block≠d)→Y.heap[d]?=X.heap[d]?∧∀ y,a'=some y→y.block≠d):Rep b Y (setF L i (a',c',ws)):=by
 have oth:∀ j,j≠i→OwnL 9 1 (b + 1) Y (L j).1 (L j).2.1 (L j).2.2.length ((L j).2.2.map Value.string)∧Apart a' (L j).1:=fun j hj => by
  have hoj:=h.own j
  have hlow:=hoj.low
  have hap:=h.ap i j (Ne.symm hj)
  have key:∀ x,(L j).1=some x→Y.heap[x.block]?=X.heap[x.block]?∧∀ y,a'=some y→y.block≠x.block:=fun x hx =>
   hk x.block (hlow x hx).2.1 fun y hy => hap y x hy hx
  refine ⟨⟨hoj.1,?_⟩,fun y x hy hx => (key x hx).2 y hy⟩
  rcases hoj.2 with h1 | ⟨g',cap,cur,hv,hbg,hg,hr⟩
  ·exact .inl h1
  ·refine .inr ⟨g',cap,cur,hv,hbg,?_,hr⟩
   have hx:(L j).1=some ⟨g',0,none⟩:=(Value.slice.inj hv).1
   rw [(key _ hx).1];exact hg
 refine ⟨(hb.block b (Nat.lt_succ_self _)).trans h.cb,fun j => ?_,fun j k hjk => ?_⟩
 ·unfold setF
  by_cases e:j=i
  ·rw [if_pos e];exact o
  ·rw [if_neg e];exact (oth j e).1
 ·unfold setF
  by_cases e:j=i
  ·rw [if_pos e,if_neg (fun e2 => hjk (e.trans e2.symm))]
   exact (oth k (fun e2 => hjk (e.trans e2.symm))).2
  ·rw [if_neg e]
   by_cases e2:k=i
   ·rw [if_pos e2];exact (oth j e).2.symm
   ·rw [if_neg e2];exact h.ap j k hjk
theorem zHs {base g:Nat} {X:World} {s:ByteArray} {a:Option Addr} {k:IntKind} {x:Int} {j:Nat} (o:OwnL 9 1 base X (some ⟨g,0,none⟩) 1 1 [.string s]) {d off:Nat} (ha:a=some ⟨d,off,none⟩) (hc:X.cell? ⟨d,off + j,none⟩=some (.int k x)):Apart (some ⟨g,0,none⟩) a:=by
 intro y z hy hz e
 cases hy
 rw [ha] at hz
 cases hz
 have e:g=d:=e
 subst e
 rcases o.2 with ⟨h1,_⟩ | ⟨g',cap,cur,hv,hbg,hg,hnc,hcm,hcs,ht⟩
 ·cases h1
 ·obtain ⟨hv1,_,hv3⟩:=Value.slice.inj hv
  cases hv1
  have hcap:cap=1:=hv3.symm
  subst hcap
  have hcell:X.cell? ⟨g,off + j,none⟩=cur[off + j]?:=by simp [World.cell?,hg]
  rw [hcell] at hc
  have hlt:=(Array.getElem?_eq_some_iff.1 hc).1
  have h0:off + j=0:=by omega
  rw [h0] at hc
  have hc2:cur.toList[0]?=some (.int k x):=by simpa using hc
  have:(cur.toList.take (1 * 1))[0]?=some (.int k x):=by rw [List.getElem?_take];simpa using hc2
  rw [show cur.toList.take (1 * 1)=[Value.string s] from ht] at this
  simp at this
end Go.Proofs.YticjeianiahppaaGreatDoor
