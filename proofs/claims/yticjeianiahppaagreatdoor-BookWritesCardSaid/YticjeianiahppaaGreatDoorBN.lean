/- The session book: contracts of the program and of the laws' helpers, joined (Kr, Ks). -/
import Derived.Test.YticjeianiahppaaGreatDoorBM
import Derived.Test.YticjeianiahppaaGreatDoorBG
import Derived.WalkSmall
import Derived.Lib.AppendIntMem
import Derived.Lib.SmallJoins
import Derived.Lib.AtoiAllCases
import Derived.Maps.OwnOps
set_option linter.unusedVariables false
set_option linter.unusedSimpArgs false
set_option linter.unnecessarySimpa false
set_option maxRecDepth 100000
namespace Go.Proofs.YticjeianiahppaaGreatDoor
open Go.RowKit Go.Flow
structure Vars (w:World):Prop where
 lt:8≤w.heap.size
 tab : Lib.TabIs Tryz.prog w "internal/strconv.uint64pow10" .u64 Lib.pow10Tab
 syn : ∃ tp p, w.var? Tryz.prog "strconv.ErrSyntax" = some #[.iface tp p]
 rng : ∃ tp p, w.var? Tryz.prog "strconv.ErrRange" = some #[.iface tp p]
 mx:∃ m,w.cell? ⟨1,0,none⟩=some (.int .i64 m)
theorem zQG : ∃ g, Tryz.prog.globalNamed "internal/strconv.uint64pow10" = some g ∧ g < 8 := ⟨0, by kernel_rfl, by decide⟩
theorem zQH : ∃ g, Tryz.prog.globalNamed "strconv.ErrSyntax" = some g ∧ g < 8 := ⟨2, by kernel_rfl, by decide⟩
theorem zQI : ∃ g, Tryz.prog.globalNamed "strconv.ErrRange" = some g ∧ g < 8 := ⟨3, by kernel_rfl, by decide⟩
theorem Vars.under {w w' : World} (h:Vars w) (hb:Below 8 w w'):Vars w':=by
 refine ⟨Nat.le_trans h.lt hb.size,?_,?_,?_,?_⟩
 ·obtain ⟨g,hg,lt⟩:=zQG
  exact var?_below hb hg lt h.tab
 ·obtain ⟨g,hg,lt⟩:=zQH
  obtain ⟨tp,p,h⟩:=h.syn
  exact ⟨tp,p,var?_below hb hg lt h⟩
 ·obtain ⟨g,hg,lt⟩:=zQI
  obtain ⟨tp,p,h⟩:=h.rng
  exact ⟨tp,p,var?_below hb hg lt h⟩
 ·obtain ⟨m,h⟩:=h.mx
  refine ⟨m,?_⟩
  rw [← h]
  simp only [World.cell?,hb.block 1 (by omega)]
theorem Vars.below {w w' : World} (h:Vars w) (hb:Below w.heap.size w w'):Vars w':=h.under (hb.mono h.lt)
theorem Vars.keep {g:Nat} {w w' : World} (h:Vars w) (hg:8≤g) (k:KeepG g w w'):Vars w':=h.under (k.under hg)
def numF (s:List UInt8):Option Int :=
 match Lib.atoiAll s with
 | .ok v => if Lib.itoa v=s∧(Lib.trimPrefix s [45]).length≤9 then some v else none
 | _ => none
def zGF (s:List UInt8) (w:World) (e:Ending) (w' : World):Prop :=
 Below w.heap.size w w'∧((∃ v,numF s=some v∧e=.returned (.int .i64 v))∨(numF s=none∧e=refusal 4))
theorem zPf (s:ByteArray) (v:Int) (hs:s.size < 4294967281) (h:Hid (Lib.atoiAll s.data.toList=.ok v)) (w:World):Calls Tryz.prog 235 #[.string s] w fun e w' => e=.returned (.tuple #[.int .i64 v,.nilIface])∧Below w.heap.size w w':=by
 refine (Tryz.strconv_Atoi_ok s (by omega) v h.out w).mono ?_
 rintro e w' ⟨h,rfl | ⟨t,rfl⟩⟩
 ·exact ⟨h,Below.refl _ _⟩
 ·exact ⟨h,Joins.below_bytesWorld _ _ _ _ (Nat.le_refl _)⟩
theorem zO3 (s:ByteArray) (hs:s.size < 4294967281) (h:∀ v,Lib.atoiAll s.data.toList≠.ok v) (w:World) (hv:Vars w):Calls Tryz.prog 235 #[.string s] w fun e w' => (∃ n N,e=.returned (.tuple #[.int .i64 n,.iface 389 (.pointer (some ⟨N,0,none⟩))]))∧Below w.heap.size w w':=by
 rcases hx:Lib.atoiAll s.data.toList with v | _ | _
 ·exact absurd hx (h v)
 ·obtain ⟨tp,p,hv⟩:=hv.syn
  refine (Tryz.strconv_Atoi_syntax_var s (by omega) hx tp p w hv).mono ?_
  rintro e w' ⟨N,rfl,_,_,b⟩
  exact ⟨⟨_,_,rfl⟩,b⟩
 ·obtain ⟨tp,p,hv⟩:=hv.rng
  refine (Tryz.strconv_Atoi_range_var s (by omega) hx tp p w hv).mono ?_
  rintro e w' ⟨N,rfl,_,_,b⟩
  exact ⟨⟨_,_,rfl⟩,b⟩
theorem zJn (n:Int) (h0 : -9223372036854775808≤n) (h1:n≤9223372036854775807) (w:World) (hv:Vars w):Calls Tryz.prog 109 #[.int .i64 n] w fun e w' => e=.returned (.string ⟨(Lib.itoa n).toArray⟩)∧Below w.heap.size w w':=by
 refine (Tryz.strconv_Itoa n h0 h1 w hv.tab).mono ?_
 rintro e w' ⟨h,k,os,rfl⟩
 exact ⟨h,Lib.below_grow _ _ (Nat.le_refl _) _ _⟩
theorem zN8 (s p:ByteArray) (w:World):Calls Tryz.prog 254 #[.string s,.string p] w fun e w' => e=.returned (.string ⟨(Lib.trimPrefix s.data.toList p.data.toList).toArray⟩)∧w=w' :=
 (Tryz.strings_TrimPrefix s p w).mono fun _ _ h => ⟨h.1,h.2.symm⟩
theorem zGF.good {s:List UInt8} {v:Int} {w w' : World} (hb:Below w.heap.size w w') (h:numF s=some v):zGF s w (.returned (.int .i64 v)) w':=⟨hb,.inl ⟨v,h,rfl⟩⟩
theorem zGF.bad {s:List UInt8} {w w' : World} (hb:Below w.heap.size w w') (h:numF s=none):zGF s w (refusal 4) w':=⟨hb,.inr ⟨h,rfl⟩⟩
theorem zK3 (s:ByteArray) (hs:s.size < 4294967281) (w:World) (hv:Vars w):Calls Tryz.prog 189 #[.string s] w (zGF s.data.toList w):=by
 have hb0:=Below.refl w.heap.size w
 by_cases hx:∃ v,Lib.atoiAll s.data.toList=.ok v
 ·obtain ⟨v,hx⟩:=hx
  obtain ⟨l0,l1⟩:=Lib.atoiAll_bounds hx
  have Hx:=Lib.hid hx
  go_enter Tryz.func189,Tryz.ntmps189
  go_wp2_with fail
  go_at_call 235
  refine (zPf s v hs Hx w).mono ?_
  rintro e w1 ⟨rfl,b1⟩
  have v1:=hv.below b1
  go_wp2_with fail
  go_at_call 109
  refine (zJn v l0 l1 w1 v1).mono ?_
  rintro e w2 ⟨rfl,b2⟩
  go_wp2_with fail
  ·rename_i hi K hK
   replace hi:Lib.itoa v=s.data.toList:=by rw [← ByteArray.toList_eq];exact hi
   refine (zN8 _ _ _).mono ?_
   rintro e _ ⟨rfl,rfl⟩
   go_wp2_with fail
   go_at_call 188
   obtain ⟨q,hq⟩:∃ q,decide (((Lib.trimPrefix s.data.toList [45]).length:Int)≤9)=q:=⟨_,rfl⟩
   rw [hq]
   cases q
   ·refine (zAP 4 _).mono ?_
    rintro e _ ⟨rfl,rfl⟩
    refine ⟨rfl,.bad (b1.trans (b2.mono b1.size)) ?_⟩
    unfold numF
    rw [hx]
    simp at hq
    simp
    omega
   refine (zA3 4 _).mono ?_
   rintro e _ ⟨rfl,rfl⟩
   go_wp2_with fail
   go_ret
   refine .good (b1.trans (b2.mono b1.size)) ?_
   unfold numF
   rw [hx]
   simp at hq
   simp [hi]
   omega
  ·rename_i hi K hK
   replace hi:¬ Lib.itoa v=s.data.toList:=by rw [← ByteArray.toList_eq];exact hi
   refine (zAP 4 _).mono ?_
   rintro e _ ⟨rfl,rfl⟩
   refine ⟨rfl,.bad (b1.trans (b2.mono b1.size)) ?_⟩
   unfold numF
   rw [hx]
   simp [hi]
 ·have hx' : ∀ v,Lib.atoiAll s.data.toList≠.ok v:=fun v h => hx ⟨v,h⟩
  have Hx:=Lib.hid hx'
  clear hx
  go_enter Tryz.func189,Tryz.ntmps189
  go_wp2_with fail
  go_at_call 235
  refine (zO3 s hs Hx.out w hv).mono ?_
  rintro e w1 ⟨⟨n,N,rfl⟩,b1⟩
  go_wp2_with fail
  go_at_call 188
  refine (zAP 4 _).mono ?_
  rintro e _ ⟨rfl,rfl⟩
  refine ⟨rfl,.bad b1 ?_⟩
  unfold numF
  split
  ·rename_i v h
   exact absurd h (hx' v)
  ·rfl
def zDA (l:List (ByteArray × Value)):Array MapEntry:=(l.zipIdx.map fun p => ({ key:=.string p.1.1,val:=p.1.2,born:=p.2 }:MapEntry)).toArray
def TabM (w:World) (b:Nat) (l:List (ByteArray × Value)):Prop:=w.heap[b]?=some (.map (zDA l) l.length)
theorem TabM.made (w:World):TabM (w.alloc (.map #[] 0)) w.heap.size []:=(MapKept.heap_alloc w _).1
theorem TabM.lt {w:World} {b:Nat} {l:List (ByteArray × Value)} (h:TabM w b l):b < w.heap.size:=(Array.getElem?_eq_some_iff.1 h).1
theorem TabM.below {w w' : World} {b n:Nat} {l:List (ByteArray × Value)} (h:TabM w b l) (hb:Below n w w') (hn:b < n):TabM w' b l:=by
 unfold TabM;rw [hb.block b hn];exact h
theorem zGd {l:List (ByteArray × Value)} {x:MapEntry} (h:x ∈ (zDA l).toList):∃ p ∈ l,x.key=.string p.1∧x.val=p.2:=by
 unfold zDA at h
 rw [List.toList_toArray,List.mem_map] at h
 obtain ⟨⟨p,i⟩,hp,rfl⟩:=h
 exact ⟨p,(List.mem_zipIdx hp).2.2 ▸ List.getElem_mem _,rfl,rfl⟩
theorem zJF (l:List (ByteArray × Value)) (k:ByteArray) (v:Value):(zDA l).push { key:=.string k,val:=v,born:=l.length }=zDA (l ++ [(k,v)]):=by
 simp [zDA,List.zipIdx_append]
section
variable {P:Program} {w:World} {b:Nat} {l:List (ByteArray × Value)} {T K E:TypeId}
theorem zJ0 (hK:P.underlying K=some .string) (k:ByteArray) :
  ((Instr.findKey K (.string k) (zDA l).toList).run P w=.ok none w∧∀ p ∈ l,p.1≠k)∨∃ j v,(Instr.findKey K (.string k) (zDA l).toList).run P w=.ok (some (j,v)) w∧(k,v) ∈ l:=by
 have hk:∀ x ∈ (zDA l).toList,MapKept.IsKey .string x.key:=fun x hx => by
  obtain ⟨p,_,e,_⟩:=zGd hx
  rw [e];trivial
 rcases MapKept.findNow_spec (d:=.string) (k:=.string k) trivial (zDA l).toList 0 hk with ⟨h1,h2⟩ | ⟨j,e,h1,h2,h3⟩
 ·refine .inl ⟨MapKept.run_findKey hK h1,fun p hp e => ?_⟩
  obtain ⟨i,hi,e1⟩:=List.mem_iff_getElem.1 hp
  refine h2 { key:=.string p.1,val:=p.2,born:=i } ?_ (by rw [e])
  unfold zDA
  rw [List.toList_toArray,List.mem_map]
  refine ⟨(p,i),?_,rfl⟩
  rw [List.mem_zipIdx_iff_getElem?]
  simp [e1,hi]
 ·obtain ⟨p,hp,e1,e2⟩:=zGd (List.mem_of_getElem? h2)
  rw [h3] at e1
  injection e1 with e1
  exact .inr ⟨_,_,MapKept.run_findKey hK h1,by rw [e2,e1];exact hp⟩
theorem zPB (hT:P.underlying T=some (.map K E)) (hK:P.underlying K=some .string) (h:TabM w b l) (k:ByteArray) (hk:∀ p ∈ l,p.1≠k) (v:Value) :
  (Instr.mapUpdate T (.map (some b)) (.string k) v).run P w=.ok () { w with heap:=w.heap.setIfInBounds b (.map (zDA (l ++ [(k,v)])) (l ++ [(k,v)]).length) }:=by
 rcases zJ0 (P:=P) (w:=w) (l:=l) hK k with ⟨h1,_⟩ | ⟨j,u,_,hm⟩
 ·rw [← zJF]
  simp [Instr.mapUpdate,run_underlying hT,MapKept.run_getObj_map h,MapKept.run_checkKey (k:=.string k) hK trivial,h1,MapKept.run_setObj_map _ h,Result.andThen]
 ·exact absurd rfl (hk _ hm)
theorem zN9 (hT:P.underlying T=some (.map K E)) (hK:P.underlying K=some .string) (h:TabM w b l) {z:Value} (hz:(zeroValue E).run P w=.ok z w) (k:ByteArray) :
  ((Instr.lookup T (.map (some b)) (.string k) true).run P w=.ok (.tuple #[z,.bool false]) w∧∀ p ∈ l,p.1≠k)∨∃ v,(Instr.lookup T (.map (some b)) (.string k) true).run P w=.ok (.tuple #[v,.bool true]) w∧(k,v) ∈ l:=by
 rcases zJ0 (P:=P) (w:=w) (l:=l) hK k with ⟨h1,h2⟩ | ⟨j,v,h1,h2⟩
 ·exact .inl ⟨by simp [Instr.lookup,run_underlying hT,MapKept.run_getObj_map h,MapKept.run_checkKey (k:=.string k) hK trivial,h1,hz,Result.andThen],h2⟩
 ·exact .inr ⟨v,by simp [Instr.lookup,run_underlying hT,MapKept.run_getObj_map h,MapKept.run_checkKey (k:=.string k) hK trivial,h1,Result.andThen],h2⟩
theorem zAw (hT:P.underlying T=some (.map K E)) (hK:P.underlying K=some .string) (h:TabM w b l) (k:ByteArray) (hk:∀ p ∈ l,p.1≠k) (v:Value) :
  ∃ w',(Instr.mapUpdate T (.map (some b)) (.string k) v).run P w=.ok () w'∧TabM w' b (l ++ [(k,v)])∧Below b w w' :=
 ⟨_,zPB hT hK h k hk v,by simp [TabM,h.lt],⟨rfl,rfl,rfl,by simp,fun j hj => by rw [Array.getElem?_setIfInBounds_ne (by omega)]⟩⟩
end
theorem zAp:Tryz.prog.underlying 306=some (.map 9 304):=by kernel_rfl
theorem kindStr:Tryz.prog.underlying 9=some .string:=by kernel_rfl
def Cmd.word:Cmd→List UInt8
 | .book => [98,111,111,107] | .key => [107,101,121] | .day => [100,97,121] | .lost => [108,111,115,116] | .found => [102,111,117,110,100] | .send => [115,101,110,100]
 | .route => [114,111,117,116,101] | .leg => [108,101,103] | .sleep => [115,108,101,101,112] | .wait => [119,97,105,116] | .came => [99,97,109,101] | .skipped => [115,107,105,112,112,101,100]
 | .strike => [115,116,114,105,107,101] | .rate => [114,97,116,101] | .paid => [112,97,105,100] | .passed => [112,97,115,115,101,100] | .words => [119,111,114,100,115]
def Cmd.fn:Cmd→Nat
 | .book => 237 | .key => 238 | .day => 239 | .lost => 240 | .found => 241 | .send => 242
 | .route => 243 | .leg => 244 | .sleep => 245 | .wait => 246 | .came => 247 | .skipped => 248
 | .strike => 249 | .rate => 250 | .paid => 251 | .passed => 252 | .words => 253
def Cmd.all:List Cmd:=[.book,.key,.day,.lost,.found,.send,.route,.leg,.sleep,.wait,.came,.skipped,.strike,.rate,.paid,.passed,.words]
def zKB:List (ByteArray × Value):=Cmd.all.map fun c => (⟨c.word.toArray⟩,.agg #[.int .i64 c.many,.func (.func c.fn) #[] #[]])
theorem zKA (w:World):Calls Tryz.prog 187 #[] w fun e w' => ∃ b,e=.returned (.map (some b))∧w.heap.size≤b∧TabM w' b zKB∧Below w.heap.size w w':=by
 have mk:∀ W,Sem.run Tryz.prog (Instr.makeMap 306 none) W=.ok (.map (some W.heap.size)) (W.alloc (.map #[] 0)):=fun W => by kernel_rfl
 have t0:=TabM.made w
 have c0:Below w.heap.size w (w.alloc (.map #[] 0)):=(Below.refl _ _).alloc (Nat.le_refl _) _
 obtain ⟨w1,r1,t1,c1⟩:=zAw zAp kindStr t0 ⟨#[98,111,111,107]⟩ (by decide) (.agg #[.int .i64 2,.func (.func 237) #[] #[]])
 replace c1:=c0.trans c1
 obtain ⟨w2,r2,t2,c2⟩:=zAw zAp kindStr t1 ⟨#[107,101,121]⟩ (by decide) (.agg #[.int .i64 3,.func (.func 238) #[] #[]])
 replace c2:=c1.trans c2
 obtain ⟨w3,r3,t3,c3⟩:=zAw zAp kindStr t2 ⟨#[100,97,121]⟩ (by decide) (.agg #[.int .i64 1,.func (.func 239) #[] #[]])
 replace c3:=c2.trans c3
 obtain ⟨w4,r4,t4,c4⟩:=zAw zAp kindStr t3 ⟨#[108,111,115,116]⟩ (by decide) (.agg #[.int .i64 2,.func (.func 240) #[] #[]])
 replace c4:=c3.trans c4
 obtain ⟨w5,r5,t5,c5⟩:=zAw zAp kindStr t4 ⟨#[102,111,117,110,100]⟩ (by decide) (.agg #[.int .i64 1,.func (.func 241) #[] #[]])
 replace c5:=c4.trans c5
 obtain ⟨w6,r6,t6,c6⟩:=zAw zAp kindStr t5 ⟨#[115,101,110,100]⟩ (by decide) (.agg #[.int .i64 1,.func (.func 242) #[] #[]])
 replace c6:=c5.trans c6
 obtain ⟨w7,r7,t7,c7⟩:=zAw zAp kindStr t6 ⟨#[114,111,117,116,101]⟩ (by decide) (.agg #[.int .i64 3,.func (.func 243) #[] #[]])
 replace c7:=c6.trans c7
 obtain ⟨w8,r8,t8,c8⟩:=zAw zAp kindStr t7 ⟨#[108,101,103]⟩ (by decide) (.agg #[.int .i64 3,.func (.func 244) #[] #[]])
 replace c8:=c7.trans c8
 obtain ⟨w9,r9,t9,c9⟩:=zAw zAp kindStr t8 ⟨#[115,108,101,101,112]⟩ (by decide) (.agg #[.int .i64 4,.func (.func 245) #[] #[]])
 replace c9:=c8.trans c9
 obtain ⟨w10,r10,t10,c10⟩:=zAw zAp kindStr t9 ⟨#[119,97,105,116]⟩ (by decide) (.agg #[.int .i64 1,.func (.func 246) #[] #[]])
 replace c10:=c9.trans c10
 obtain ⟨w11,r11,t11,c11⟩:=zAw zAp kindStr t10 ⟨#[99,97,109,101]⟩ (by decide) (.agg #[.int .i64 2,.func (.func 247) #[] #[]])
 replace c11:=c10.trans c11
 obtain ⟨w12,r12,t12,c12⟩:=zAw zAp kindStr t11 ⟨#[115,107,105,112,112,101,100]⟩ (by decide) (.agg #[.int .i64 2,.func (.func 248) #[] #[]])
 replace c12:=c11.trans c12
 obtain ⟨w13,r13,t13,c13⟩:=zAw zAp kindStr t12 ⟨#[115,116,114,105,107,101]⟩ (by decide) (.agg #[.int .i64 1,.func (.func 249) #[] #[]])
 replace c13:=c12.trans c13
 obtain ⟨w14,r14,t14,c14⟩:=zAw zAp kindStr t13 ⟨#[114,97,116,101]⟩ (by decide) (.agg #[.int .i64 2,.func (.func 250) #[] #[]])
 replace c14:=c13.trans c14
 obtain ⟨w15,r15,t15,c15⟩:=zAw zAp kindStr t14 ⟨#[112,97,105,100]⟩ (by decide) (.agg #[.int .i64 4,.func (.func 251) #[] #[]])
 replace c15:=c14.trans c15
 obtain ⟨w16,r16,t16,c16⟩:=zAw zAp kindStr t15 ⟨#[112,97,115,115,101,100]⟩ (by decide) (.agg #[.int .i64 2,.func (.func 252) #[] #[]])
 replace c16:=c15.trans c16
 obtain ⟨w17,r17,t17,c17⟩:=zAw zAp kindStr t16 ⟨#[119,111,114,100,115]⟩ (by decide) (.agg #[.int .i64 3,.func (.func 253) #[] #[]])
 replace c17:=c16.trans c17
 go_enter Tryz.func187,Tryz.ntmps187
 go_wp2_with fail
 go_ret
 exact ⟨_,rfl,Nat.le_refl _,t17,c17⟩
end Go.Proofs.YticjeianiahppaaGreatDoor
