/- The session book: contracts of the program and of the laws' helpers, joined (Kt). -/
import Derived.Test.YticjeianiahppaaGreatDoorBN
import Derived.Test.YticjeianiahppaaGreatDoorBL
import Derived.Test.YticjeianiahppaaGreatDoorBK
import Derived.Defers
import Derived.Recover
import Derived.Laws.Tables
import Derived.Laws.Pointers
set_option linter.unusedVariables false
set_option linter.unusedSimpArgs false
set_option linter.unnecessarySimpa false
set_option maxRecDepth 100000
set_option maxHeartbeats 40000000
namespace Go.Proofs.YticjeianiahppaaGreatDoor
open Go.RowKit Go.Flow
variable {hd:Nat}
theorem zCG {w:World} {b:Nat} {cs:Array Value} {T:TypeId} (h:Cells w b cs T) (hs:cs.size=13):(loadVar 57 ⟨b,0,none⟩).run Tryz.prog w=.ok (.agg cs) w:=by
 have hi:=Tryz.isAgg57
 have hz:=Tryz.sizeOf57
 obtain ⟨l⟩:=cs
 match l,hs with
 | [a0,a1,a2,a3,a4,a5,a6,a7,a8,a9,a10,a11,a12],_ =>
  have k0:=h.cell 0
  have k1:=h.cell 1
  have k2:=h.cell 2
  have k3:=h.cell 3
  have k4:=h.cell 4
  have k5:=h.cell 5
  have k6:=h.cell 6
  have k7:=h.cell 7
  have k8:=h.cell 8
  have k9:=h.cell 9
  have k10:=h.cell 10
  have k11:=h.cell 11
  have k12:=h.cell 12
  simp at k0 k1 k2 k3 k4 k5 k6 k7 k8 k9 k10 k11 k12
  unfold loadVar
  go_simp
theorem Cells.row {w:World} {g:Nat} {cs:Array Value} {T:TypeId} (h:Cells w g cs T) (ds:Array Value):Cells (w.setRow g ds) g ds T:=setRow_heap w g cs ds T (0,0) h
theorem zMO (g:Nat) (w:World) (cs:Array Value):zCY g (w.setRow g cs)=zCY g w:=by
 have hh:(w.setRow g cs).heap.setIfInBounds g (.cells #[] 0)=w.heap.setIfInBounds g (.cells #[] 0):=by
  apply Array.ext
  ·simp [World.setRow]
  ·intro i h1 h2
   by_cases e:i=g
   ·subst e;rw [Array.getElem_setIfInBounds_self,Array.getElem_setIfInBounds_self]
   ·rw [Array.getElem_setIfInBounds_ne _ (Ne.symm e),Array.getElem_setIfInBounds_ne _ (Ne.symm e)]
    ·exact Array.getElem_modify_of_ne (Ne.symm e) _ _
    ·simpa [World.setRow] using h1
 simp only [zCY,hh]
 rfl
theorem KeepG.row {g:Nat} {w w' : World} (h:KeepG g w w') (cs:Array Value):KeepG g w (w'.setRow g cs):=⟨h.lt,by rw [zMO];exact h.below⟩
theorem zLB (a b c:Value) (w:World):CallsD Tryz.prog 185 #[a,b,c] .returning w fun e u' w' => e=.returned (.tuple #[])∧u'=.returning∧w'=w:=by
 refine callsD_of_wpS Tryz.func185 rfl fun c₀ cs hu => ?_
 apply wpS_seq
 apply wpS_region
 simp [wpOpsS,go_sem,recoverD,hu,Tryz.ntmps185,Exit.thenS]
 refine wpS_of_wp ?_
 rw [show (#[a,b,c] ++ (Array.replicate 14 undef).setIfInBounds 3 (.nilIface):Array Value)=#[a,b,c,undef,undef,undef,.nilIface,undef,undef,undef,undef,undef,undef,undef,undef,undef,undef] from rfl]
 generalize hQ:(fun e a' w' => bodyPostS Tryz.prog _ c₀ _ _ e a' _ w')=Q
 go_wp2
 rw [← hQ]
 cases c₀
 simp_all [bodyPostS,results,Tryz.results185]
theorem zO1 {w:World} {g:Nat} (h:Blk w g):∃ a0 a1 a2 a3 a4 a5 a6 a7 a8 a9 a10 a11 a12,Cells w g #[a0,a1,a2,a3,a4,a5,a6,a7,a8,a9,a10,a11,a12] 162:=by
 obtain ⟨⟨l⟩,hs,h⟩:=h
 match l,hs with
 | [a0,a1,a2,a3,a4,a5,a6,a7,a8,a9,a10,a11,a12],_ => exact ⟨a0,a1,a2,a3,a4,a5,a6,a7,a8,a9,a10,a11,a12,h⟩
theorem zB3 {w:World} {g:Nat} {T:TypeId} {a0 a1 a2 a3 a4 a5 a6 a7 a8 a9 a10 a11 a12 v0 v1 v2 v3 v4 v5 v6 v7 v8 v9 v10 v11 v12:Value} (h:Cells w g #[a0,a1,a2,a3,a4,a5,a6,a7,a8,a9,a10,a11,a12] T) :
  Cells (((((((((((((w.setCell ⟨g,0,none⟩ v0).setCell ⟨g,1,none⟩ v1).setCell ⟨g,2,none⟩ v2).setCell ⟨g,3,none⟩ v3).setCell ⟨g,4,none⟩ v4).setCell ⟨g,5,none⟩ v5).setCell ⟨g,6,none⟩ v6).setCell ⟨g,7,none⟩ v7).setCell ⟨g,8,none⟩ v8).setCell ⟨g,9,none⟩ v9).setCell ⟨g,10,none⟩ v10).setCell ⟨g,11,none⟩ v11).setCell ⟨g,12,none⟩ v12) g #[v0,v1,v2,v3,v4,v5,v6,v7,v8,v9,v10,v11,v12] T:=by
 replace h:Cells (w.setCell ⟨g,0,none⟩ v0) g #[v0,a1,a2,a3,a4,a5,a6,a7,a8,a9,a10,a11,a12] T:=h.set 0 v0
 replace h:Cells ((w.setCell ⟨g,0,none⟩ v0).setCell ⟨g,1,none⟩ v1) g #[v0,v1,a2,a3,a4,a5,a6,a7,a8,a9,a10,a11,a12] T:=h.set 1 v1
 replace h:Cells (((w.setCell ⟨g,0,none⟩ v0).setCell ⟨g,1,none⟩ v1).setCell ⟨g,2,none⟩ v2) g #[v0,v1,v2,a3,a4,a5,a6,a7,a8,a9,a10,a11,a12] T:=h.set 2 v2
 replace h:Cells ((((w.setCell ⟨g,0,none⟩ v0).setCell ⟨g,1,none⟩ v1).setCell ⟨g,2,none⟩ v2).setCell ⟨g,3,none⟩ v3) g #[v0,v1,v2,v3,a4,a5,a6,a7,a8,a9,a10,a11,a12] T:=h.set 3 v3
 replace h:Cells (((((w.setCell ⟨g,0,none⟩ v0).setCell ⟨g,1,none⟩ v1).setCell ⟨g,2,none⟩ v2).setCell ⟨g,3,none⟩ v3).setCell ⟨g,4,none⟩ v4) g #[v0,v1,v2,v3,v4,a5,a6,a7,a8,a9,a10,a11,a12] T:=h.set 4 v4
 replace h:Cells ((((((w.setCell ⟨g,0,none⟩ v0).setCell ⟨g,1,none⟩ v1).setCell ⟨g,2,none⟩ v2).setCell ⟨g,3,none⟩ v3).setCell ⟨g,4,none⟩ v4).setCell ⟨g,5,none⟩ v5) g #[v0,v1,v2,v3,v4,v5,a6,a7,a8,a9,a10,a11,a12] T:=h.set 5 v5
 replace h:Cells (((((((w.setCell ⟨g,0,none⟩ v0).setCell ⟨g,1,none⟩ v1).setCell ⟨g,2,none⟩ v2).setCell ⟨g,3,none⟩ v3).setCell ⟨g,4,none⟩ v4).setCell ⟨g,5,none⟩ v5).setCell ⟨g,6,none⟩ v6) g #[v0,v1,v2,v3,v4,v5,v6,a7,a8,a9,a10,a11,a12] T:=h.set 6 v6
 replace h:Cells ((((((((w.setCell ⟨g,0,none⟩ v0).setCell ⟨g,1,none⟩ v1).setCell ⟨g,2,none⟩ v2).setCell ⟨g,3,none⟩ v3).setCell ⟨g,4,none⟩ v4).setCell ⟨g,5,none⟩ v5).setCell ⟨g,6,none⟩ v6).setCell ⟨g,7,none⟩ v7) g #[v0,v1,v2,v3,v4,v5,v6,v7,a8,a9,a10,a11,a12] T:=h.set 7 v7
 replace h:Cells (((((((((w.setCell ⟨g,0,none⟩ v0).setCell ⟨g,1,none⟩ v1).setCell ⟨g,2,none⟩ v2).setCell ⟨g,3,none⟩ v3).setCell ⟨g,4,none⟩ v4).setCell ⟨g,5,none⟩ v5).setCell ⟨g,6,none⟩ v6).setCell ⟨g,7,none⟩ v7).setCell ⟨g,8,none⟩ v8) g #[v0,v1,v2,v3,v4,v5,v6,v7,v8,a9,a10,a11,a12] T:=h.set 8 v8
 replace h:Cells ((((((((((w.setCell ⟨g,0,none⟩ v0).setCell ⟨g,1,none⟩ v1).setCell ⟨g,2,none⟩ v2).setCell ⟨g,3,none⟩ v3).setCell ⟨g,4,none⟩ v4).setCell ⟨g,5,none⟩ v5).setCell ⟨g,6,none⟩ v6).setCell ⟨g,7,none⟩ v7).setCell ⟨g,8,none⟩ v8).setCell ⟨g,9,none⟩ v9) g #[v0,v1,v2,v3,v4,v5,v6,v7,v8,v9,a10,a11,a12] T:=h.set 9 v9
 replace h:Cells (((((((((((w.setCell ⟨g,0,none⟩ v0).setCell ⟨g,1,none⟩ v1).setCell ⟨g,2,none⟩ v2).setCell ⟨g,3,none⟩ v3).setCell ⟨g,4,none⟩ v4).setCell ⟨g,5,none⟩ v5).setCell ⟨g,6,none⟩ v6).setCell ⟨g,7,none⟩ v7).setCell ⟨g,8,none⟩ v8).setCell ⟨g,9,none⟩ v9).setCell ⟨g,10,none⟩ v10) g #[v0,v1,v2,v3,v4,v5,v6,v7,v8,v9,v10,a11,a12] T:=h.set 10 v10
 replace h:Cells ((((((((((((w.setCell ⟨g,0,none⟩ v0).setCell ⟨g,1,none⟩ v1).setCell ⟨g,2,none⟩ v2).setCell ⟨g,3,none⟩ v3).setCell ⟨g,4,none⟩ v4).setCell ⟨g,5,none⟩ v5).setCell ⟨g,6,none⟩ v6).setCell ⟨g,7,none⟩ v7).setCell ⟨g,8,none⟩ v8).setCell ⟨g,9,none⟩ v9).setCell ⟨g,10,none⟩ v10).setCell ⟨g,11,none⟩ v11) g #[v0,v1,v2,v3,v4,v5,v6,v7,v8,v9,v10,v11,a12] T:=h.set 11 v11
 replace h:Cells (((((((((((((w.setCell ⟨g,0,none⟩ v0).setCell ⟨g,1,none⟩ v1).setCell ⟨g,2,none⟩ v2).setCell ⟨g,3,none⟩ v3).setCell ⟨g,4,none⟩ v4).setCell ⟨g,5,none⟩ v5).setCell ⟨g,6,none⟩ v6).setCell ⟨g,7,none⟩ v7).setCell ⟨g,8,none⟩ v8).setCell ⟨g,9,none⟩ v9).setCell ⟨g,10,none⟩ v10).setCell ⟨g,11,none⟩ v11).setCell ⟨g,12,none⟩ v12) g #[v0,v1,v2,v3,v4,v5,v6,v7,v8,v9,v10,v11,v12] T:=h.set 12 v12
 exact h
theorem zHT (bs pw pe g:Nat) (x y:Int) (S:BSt) (A:Adr) (w:World) (hS:Cells w bs (zAW S A) 57) (hP:Cells w pw #[.pointer (some ⟨g,0,none⟩)] 157) (hE:Cells w pe #[.int .i64 y] 59) (hG:Blk w g) (n1:bs≠g) (n2:pw≠g) (n3:pe≠g) :
  CallsD Tryz.prog 185 #[.pointer (some ⟨bs,0,none⟩),.pointer (some ⟨pw,0,none⟩),.pointer (some ⟨pe,0,none⟩)] (.panicking [{ v:=.iface 300 (.int .i64 x),recovered:=false }]) w fun e u' w' =>
   e=.returned (.tuple #[])∧u'=.panicking [{ v:=.iface 300 (.int .i64 x),recovered:=true }]∧∃ w1,w'=w1.setCell ⟨pe,0,none⟩ (.int .i64 x)∧zCY g w1=zCY g w∧Cells w1 g (zAW S A) 162:=by
 have s0:=hS.cell 0
 have s1:=hS.cell 1
 have s2:=hS.cell 2
 have s3:=hS.cell 3
 have s4:=hS.cell 4
 have s5:=hS.cell 5
 have s6:=hS.cell 6
 have s7:=hS.cell 7
 have s8:=hS.cell 8
 have s9:=hS.cell 9
 have s10:=hS.cell 10
 have s11:=hS.cell 11
 have s12:=hS.cell 12
 obtain ⟨a0,a1,a2,a3,a4,a5,a6,a7,a8,a9,a10,a11,a12,hG⟩:=zO1 hG
 have g0:=hG.cell 0
 have f0:=hG.frozen 0
 have g1:=hG.cell 1
 have f1:=hG.frozen 1
 have g2:=hG.cell 2
 have f2:=hG.frozen 2
 have g3:=hG.cell 3
 have f3:=hG.frozen 3
 have g4:=hG.cell 4
 have f4:=hG.frozen 4
 have g5:=hG.cell 5
 have f5:=hG.frozen 5
 have g6:=hG.cell 6
 have f6:=hG.frozen 6
 have g7:=hG.cell 7
 have f7:=hG.frozen 7
 have g8:=hG.cell 8
 have f8:=hG.frozen 8
 have g9:=hG.cell 9
 have f9:=hG.frozen 9
 have g10:=hG.cell 10
 have f10:=hG.frozen 10
 have g11:=hG.cell 11
 have f11:=hG.frozen 11
 have g12:=hG.cell 12
 have f12:=hG.frozen 12
 have hta:∀ W,Sem.run Tryz.prog (Instr.typeAssert (.iface 300 (.int .i64 x)) 20 300 true) W=.ok (.tuple #[.int .i64 x,.bool true]) W:=fun W => by kernel_rfl
 have p0:=hP.cell 0
 have e0:=hE.cell 0
 have ef:=hE.frozen 0
 simp at p0 e0 s0 g0 s1 g1 s2 g2 s3 g3 s4 g4 s5 g5 s6 g6 s7 g7 s8 g8 s9 g9 s10 g10 s11 g11 s12 g12
 refine callsD_of_wpS Tryz.func185 rfl fun c₀ cs hu => ?_
 apply wpS_seq
 apply wpS_region
 simp [wpOpsS,go_sem,recoverD,hu,Tryz.ntmps185,Exit.thenS]
 refine wpS_of_wp ?_
 rw [show (#[.pointer (some ⟨bs,0,none⟩),.pointer (some ⟨pw,0,none⟩),.pointer (some ⟨pe,0,none⟩)] ++ (Array.replicate 14 undef).setIfInBounds 3 (.iface 300 (.int .i64 x)):Array Value)=#[.pointer (some ⟨bs,0,none⟩),.pointer (some ⟨pw,0,none⟩),.pointer (some ⟨pe,0,none⟩),undef,undef,undef,.iface 300 (.int .i64 x),undef,undef,undef,undef,undef,undef,undef,undef,undef,undef] from rfl]
 generalize hQ:(fun e a' w' => bodyPostS Tryz.prog _ c₀ _ _ e a' _ w')=Q
 go_wp2
 rw [← hQ]
 refine ⟨rfl,_,rfl,.tuple #[],by simp [results,Tryz.results185],rfl,rfl,_,rfl,by simp only [zHx],zB3 hG⟩
end Go.Proofs.YticjeianiahppaaGreatDoor
