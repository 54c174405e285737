/- The session book: contracts of the program and of the laws' helpers, joined (Km, Ka, Kb). -/
import Derived.Test.YticjeianiahppaaGreatDoorBA
import Derived.Deep.Cut
import Derived.Laws.IdiomCopy
import Derived.Deep.DeepAppendRoom
set_option linter.unusedVariables false
set_option linter.unusedSimpArgs false
set_option linter.unnecessarySimpa false
set_option maxRecDepth 100000
set_option maxHeartbeats 40000000
namespace Go.Proofs.YticjeianiahppaaGreatDoor
open Go.RowKit Go.Flow
def zCY (g:Nat) (w:World):World:={ w with heap:=w.heap.setIfInBounds g (.cells #[] 0) }
theorem zD4 (g:Nat) (w:World):(zCY g w).heap.size=w.heap.size:=by simp [zCY]
theorem zAG {g k:Nat} (w:World) (h:k≠g):(zCY g w).heap[k]?=w.heap[k]?:=by
 simp only [zCY]
 rw [Array.getElem?_setIfInBounds_ne (Ne.symm h)]
theorem zDN {g:Nat} (w:World) (h:g < w.heap.size):(zCY g w).heap[g]?=some (.cells #[] 0):=by
 simp only [zCY]
 rw [Array.getElem?_setIfInBounds_self_of_lt h]
theorem zEI {g:Nat} (w:World) {p:Addr} (h:p.block≠g):(zCY g w).cell? p=w.cell? p:=by
 simp only [World.cell?,zAG w h]
theorem zFk {g n:Nat} {w w' : World} (hg:g < w.heap.size) (h:Below n w w'):Below n (zCY g w) (zCY g w') :=
 ⟨h.os,h.tape,h.output,by rw [zD4,zD4];exact h.size,fun k hk => by
  by_cases e:k=g
  ·subst e
   rw [zDN w hg,zDN w' (Nat.lt_of_lt_of_le hg h.size)]
  ·rw [zAG w e,zAG w' e];exact h.block k hk⟩
theorem zHx (g k:Nat) (w:World) (v:Value):zCY g (w.setCell ⟨g,k,none⟩ v)=zCY g w:=by
 have hh:(w.setCell ⟨g,k,none⟩ v).heap.setIfInBounds g (.cells #[] 0)=w.heap.setIfInBounds g (.cells #[] 0):=by
  apply Array.ext
  ·simp [World.setCell]
  ·intro i h1 h2
   by_cases e:i=g
   ·subst e;rw [Array.getElem_setIfInBounds_self,Array.getElem_setIfInBounds_self]
   ·rw [Array.getElem_setIfInBounds_ne _ (Ne.symm e),Array.getElem_setIfInBounds_ne _ (Ne.symm e)]
    ·exact Array.getElem_modify_of_ne (Ne.symm e) _ _
    ·simpa [World.setCell] using h1
 simp only [zCY,hh]
 rfl
structure KeepG (g:Nat) (w w' : World):Prop where
 lt:g < w.heap.size
 below:Below w.heap.size (zCY g w) (zCY g w')
theorem KeepG.size {g:Nat} {w w' : World} (h:KeepG g w w'):w.heap.size≤w'.heap.size:=by
 have:=h.below.size
 rwa [zD4,zD4] at this
theorem KeepG.refl {g:Nat} {w:World} (h:g < w.heap.size):KeepG g w w:=⟨h,Below.refl _ _⟩
theorem KeepG.of {g:Nat} {w w' : World} (hg:g < w.heap.size) (h:Below w.heap.size w w'):KeepG g w w':=⟨hg,zFk hg h⟩
theorem KeepG.trans {g:Nat} {a b c:World} (h:KeepG g a b) (k:KeepG g b c):KeepG g a c:=⟨h.lt,h.below.trans (k.below.mono h.size)⟩
theorem KeepG.set {g:Nat} {w w' : World} (h:KeepG g w w') (k:Nat) (v:Value):KeepG g w (w'.setCell ⟨g,k,none⟩ v):=⟨h.lt,by rw [zHx];exact h.below⟩
theorem KeepG.set_new {g:Nat} {w w' : World} (h:KeepG g w w') {p:Addr} (hp:w.heap.size≤p.block) (v:Value):KeepG g w (w'.setCell p v):=by
 refine ⟨h.lt,h.below.trans ?_⟩
 have hs:g < w'.heap.size:=Nat.lt_of_lt_of_le h.lt h.size
 have hb:Below w.heap.size w' (w'.setCell p v):=(Below.refl _ _).setCell hp _
 exact zFk hs hb
theorem KeepG.under {g n:Nat} {w w' : World} (h:KeepG g w w') (hn:n≤g):Below n w w' :=
 ⟨h.below.os,h.below.tape,h.below.output,h.size,fun k hk => by
  have:=h.below.block k (by have:=h.lt;omega)
  rwa [zAG w (by omega),zAG w' (by omega)] at this⟩
theorem KeepG.cells {g b:Nat} {cs:Array Value} {T:TypeId} {w w' : World} (h:KeepG g w w') (hne:b≠g) (hc:Cells w b cs T):Cells w' b cs T:=by
 have h1:(zCY g w).heap[b]?=some (.cells cs T):=by rw [zAG w hne];exact hc
 have h2:=h.below.block b hc.lt
 rw [h1,zAG w' hne] at h2
 exact h2
theorem KeepG.cell {g:Nat} {w w' : World} {p:Addr} (h:KeepG g w w') (hne:p.block≠g) (hp:p.block < w.heap.size):w'.cell? p=w.cell? p:=by
 have:=h.below.cell (p:=p) hp
 rwa [zEI w hne,zEI w' hne] at this
def mask (hd g:Nat) (w:World):World:={ w with heap:=w.heap.mapIdx fun k o => if k≤g∨k=hd then .cells #[] 0 else o }
variable {hd:Nat}
theorem zAJ (hd g:Nat) (w:World):(mask hd g w).heap.size=w.heap.size:=by simp [mask]
theorem zBS (hd g:Nat) (w:World) (k:Nat):(mask hd g w).heap[k]?=(w.heap[k]?).map fun o => if k≤g∨k=hd then .cells #[] 0 else o:=by
 simp only [mask]
 rw [Array.getElem?_mapIdx]
theorem zB4 {g k:Nat} (w:World) (h:g < k) (h2:k≠hd):(mask hd g w).heap[k]?=w.heap[k]?:=by
 rw [zBS]
 cases w.heap[k]? with
 | none => rfl
 | some o =>
  rw [Option.map_some,if_neg]
  omega
theorem zAj {g k:Nat} {w:World} (h:k≤g∨k=hd) (hk:k < w.heap.size):(mask hd g w).heap[k]?=some (.cells #[] 0):=by
 rw [zBS,Array.getElem?_eq_getElem hk,Option.map_some,if_pos h]
theorem zDM {g:Nat} (w:World) {p:Addr} (h:g < p.block) (h2:p.block≠hd):(mask hd g w).cell? p=w.cell? p:=by
 simp only [World.cell?,zB4 w h h2]
theorem zEp {g:Nat} {w:World} {p:Addr} {v:Value} (h:(mask hd g w).cell? p=some v):g < p.block∧p.block≠hd:=by
 by_cases e:p.block≤g∨p.block=hd
 ·exfalso
  by_cases hl:p.block < w.heap.size
  ·simp only [World.cell?,zAj e hl] at h
   split at h <;> simp at h
  ·have:(mask hd g w).heap[p.block]?=none:=by rw [zBS,Array.getElem?_eq_none (by omega)];rfl
   simp [World.cell?,this] at h
 ·omega
theorem zBZ {g:Nat} {w:World} {p:Addr} {v:Value} (_:g < w.heap.size) (_:hd < w.heap.size) (h:(mask hd g w).cell? p=some v):p.block≠g∧p.block≠hd∧w.cell? p=some v:=by
 obtain ⟨h1,h2⟩:=zEp h
 exact ⟨by omega,h2,by rw [← zDM w h1 h2];exact h⟩
theorem zA0 {g n:Nat} {w w' : World} (_:g < w.heap.size) (_:hd < w.heap.size) (h:Below n w w'):Below n (mask hd g w) (mask hd g w') :=
 ⟨h.os,h.tape,h.output,by rw [zAJ,zAJ];exact h.size,fun k hk => by
  rw [zBS,zBS,h.block k hk]⟩
theorem zEH (hd g k:Nat) (w:World) (v:Value):mask hd g (w.setCell ⟨g,k,none⟩ v)=mask hd g w:=by
 have hh:(mask hd g (w.setCell ⟨g,k,none⟩ v)).heap=(mask hd g w).heap:=by
  apply Array.ext_getElem?
  intro i
  by_cases e:i=g
  ·subst e
   by_cases hl:i < w.heap.size
   ·rw [zAj (.inl (Nat.le_refl _)) hl,zAj (.inl (Nat.le_refl _)) (by simpa [World.setCell] using hl)]
   ·rw [Array.getElem?_eq_none (by rw [zAJ];simp [World.setCell];omega),Array.getElem?_eq_none (by rw [zAJ];omega)]
  ·rw [zBS,zBS]
   have:=Below.heap_setCell w ⟨g,k,none⟩ v i e
   rw [this]
 have h2:∀ w:World,mask hd g w={ w with heap:=(mask hd g w).heap }:=fun _ => rfl
 rw [h2,hh];rfl
theorem KeepG.hide {g:Nat} {w w' : World} (h:KeepG g w w') (_:hd < w.heap.size):Below (mask hd g w).heap.size (mask hd g w) (mask hd g w'):=by
 rw [zAJ]
 refine ⟨h.below.os,h.below.tape,h.below.output,by rw [zAJ,zAJ];exact h.size,fun k hk => ?_⟩
 by_cases e:k≤g
 ·rw [zAj (.inl e) hk,zAj (.inl e) (Nat.lt_of_lt_of_le hk h.size)]
 ·have:=h.below.block k hk
  rw [zAG w (by omega),zAG w' (by omega)] at this
  rw [zBS,zBS,this]
theorem zG6 {g b:Nat} {cs:Array Value} {T:TypeId} {w:World} (hne:g < b) (hn2:b≠hd) (hc:Cells w b cs T):Cells (mask hd g w) b cs T:=by
 show (mask hd g w).heap[b]?=_
 rw [zB4 w hne hn2];exact hc
theorem zAO {w w' : World} {a:Option Addr} {vs:List Value} (h:SrcAt w a vs) (hb:Below w.heap.size w w'):SrcAt w' a vs:=fun j u hu =>
 let ⟨b,off,ha,hc⟩:=h j u hu
 ⟨b,off,ha,zAA hb hc⟩
section
variable {g:Nat} {w:World} (hg:g < w.heap.size) (hh:hd < w.heap.size)
include hg hh
theorem IntsAt.unmask {a:Option Addr} {xs:List Int} (h:IntsAt (mask hd g w) a xs):IntsAt w a xs:=fun k hk =>
 let ⟨b,off,ha,hlt,hc⟩:=h k hk
 ⟨b,off,ha,by rwa [zAJ] at hlt,(zBZ hg hh hc).2.2⟩
theorem zAX.unmask {a:Option Addr} {xs:List (Int × Int)} (h:zAX (mask hd g w) a xs):zAX w a xs:=fun k hk =>
 let ⟨b,off,ha,hlt,h0,h1⟩:=h k hk
 ⟨b,off,ha,by rwa [zAJ] at hlt,(zBZ hg hh h0).2.2,(zBZ hg hh h1).2.2⟩
theorem zBX.unmask {a:Option Addr} {xs:List (Int × Int × Int)} (h:zBX (mask hd g w) a xs):zBX w a xs:=fun k hk =>
 let ⟨b,off,ha,hlt,h0,h1,h2⟩:=h k hk
 ⟨b,off,ha,by rwa [zAJ] at hlt,(zBZ hg hh h0).2.2,(zBZ hg hh h1).2.2,(zBZ hg hh h2).2.2⟩
theorem zAh {a:Option Addr} {vs:List Value} (h:SrcAt (mask hd g w) a vs):SrcAt w a vs:=fun j u hu =>
 let ⟨b,off,ha,hc⟩:=h j u hu
 ⟨b,off,ha,(zBZ hg hh hc).2.2⟩
end
end Go.Proofs.YticjeianiahppaaGreatDoor
namespace Go.Proofs.YticjeianiahppaaGreatDoor
open Go.RowKit Go.Flow
theorem zKl:(Tryz.prog.info? 186).map (fun i => (i.zero,i.size,i.bytes))=some (some (.agg #[.int .i64 0,.int .i64 0,.int .i64 0]),3,24):=by kernel_rfl
theorem zMv:Elem Tryz.prog 47 186 (.agg #[.int .i64 0,.int .i64 0,.int .i64 0]) 3 24:=⟨Tryz.underlying47,info_parts zKl,rfl,by decide⟩
theorem zJx (a:Option Addr) (n c:Nat) (vs:List Value) (w:World) (hs:SrcAt w a vs) (hl:vs.length=n * 3) (hn:a=none→n=0∧c=0) (h1:∀ u ∈ vs,u.oneCell'=true) (hk:n≤100000) :
  Calls Tryz.prog 141 #[.slice a n c] w fun e w' => (∃ a' c',e=.returned (.slice a' n c')∧OwnL 186 3 w.heap.size w' a' c' n vs)∧Below w.heap.size w w':=by
 have hnil:∀ w,(binOp .eql 47 (.slice a n c) (.slice none 0 0)).run Tryz.prog w=.ok (.bool a.isNone) w:=fun w => Lib.run_eql_slice_nil w _ _ _ _ _ _ _ Tryz.underlying47
 cases a with
 | none =>
  obtain ⟨rfl,rfl⟩:=hn rfl
  obtain rfl:vs=[]:=List.eq_nil_of_length_eq_zero (by simpa using hl)
  have hnil:∀ w,(binOp .eql 47 (.slice none 0 0) (.slice none 0 0)).run Tryz.prog w=.ok (.bool true) w:=fun w => Lib.run_eql_slice_nil w _ _ _ _ _ _ _ Tryz.underlying47
  show Calls Tryz.prog 141 #[.slice none 0 0] w _
  go_enter Tryz.func141,Tryz.ntmps141
  go_wp2
  go_ret
  exact ⟨⟨none,0,rfl,OwnL.nil _ _ _ _⟩,Below.refl _ _⟩
 | some ad =>
  simp only [Option.isNone_some] at hnil
  have hb0:Below w.heap.size w (w.alloc (.cells #[] 186)):=(Below.refl _ _).alloc (Nat.le_refl _) _
  go_enter Tryz.func141,Tryz.ntmps141
  go_wp2_with (at_builtin;refine zA2 zMv rfl _ _ rfl w.heap.size _ _ _ _ rfl (OwnL.lit #[] (Nat.le_refl _) (by decide) rfl) (some ad) n c vs rfl hn hl (zAO hs hb0) h1 (by unfold maxLen;omega) (by omega) hb0.size ?_)
  intro a' c' w' h1 h2
  go_wp2
  go_ret
  exact ⟨⟨a',c',by simp,by simpa using h1⟩,hb0.trans h2⟩
theorem zPN (a:Option Addr) (n c:Nat) (vs:List Value) (w:World) (hs:SrcAt w a vs) (hl:vs.length=n * 3) (hn:a=none→n=0∧c=0) (h1:∀ u ∈ vs,u.oneCell'=true) (hk:n≤100000) (x0 x1 x2:Int) :
  Calls Tryz.prog 291 #[.slice a n c,.agg #[.int .i64 x0,.int .i64 x1,.int .i64 x2]] w fun e w' => (∃ a' c',e=.returned (.slice a' (n + 1) c')∧OwnL 186 3 w.heap.size w' a' c' (n + 1) (vs ++ [.int .i64 x0,.int .i64 x1,.int .i64 x2]))∧Below w.heap.size w w':=by
 obtain ⟨W1,hW⟩:∃ z:World,z=w.alloc (.cells #[.int .i64 x0,.int .i64 x1,.int .i64 x2] 186):=⟨_,rfl⟩
 have t1:Below w.heap.size w W1:=by rw [hW];exact (Below.refl _ _).alloc (Nat.le_refl _) _
 have C1:Cells W1 w.heap.size #[.int .i64 x0,.int .i64 x1,.int .i64 x2] 186:=by rw [hW];exact Cells.new _ _ _
 have k0:=C1.cell 0
 have k1:=C1.cell 1
 have k2:=C1.cell 2
 simp at k0 k1 k2
 have lB:=C1.lt
 have hs1:=zAO hs t1
 go_enter Tryz.func291,Tryz.ntmps291
 go_upto_region 1 with fail
 rw [← hW]
 clear hW
 (refine zAD 4 [] [4,5] 10 [true,false,true,false] [OwnV 186 3 W1.heap.size n vs,LitV W1.heap.size 1 #[.int .i64 x0,.int .i64 x1,.int .i64 x2] 186] (by kernel_rfl) (by kernel_rfl) rfl (zAB (fun v w w' h hb => h.kept hb) (zAB (fun v w w' h hb => h.kept hb) zAR)) ?_;simp only [zAU,List.filterMap_cons,List.filterMap_nil,zzH,zzI,zzJ];(repeat (refine zAM _ rfl (fun w => (by go_simp;rfl)) ?_));refine zAS ?_;simp only [zAF,zAt,Act.put,zzG,zzE,zzF,zzA,zzB,zzC,zzD];(repeat (refine zAL (fun K hK => ?_);go_simp;first | (refine hK _ ?_;clear hK K) | (apply Exists.intro;refine ⟨fun ex => ?_,hK _ ?_⟩;(fail);clear hK K)));refine zAQ ?_;simp only [zAT,under,zAZ,and_true,List.nil_append,List.cons_append])
 refine ⟨⟨fun e => ?_,fun e v1 h1 => ?_⟩,fun e => ?_⟩
 ·go_simp
  refine (zJx a n c vs e.to (zAO hs1 e.below) hl hn h1 hk).mono ?_
  rintro _ _ ⟨⟨a',c',rfl,o⟩,b⟩
  exact ⟨b,a',c',rfl,o.base_le e.size⟩
 ·go_simp
  exact ⟨(Below.refl _ _).alloc (Nat.le_refl _) _,e.to.heap.size,rfl,e.size,Cells.new _ _ _⟩
 rintro v1 ⟨a2,c2,rfl,o2⟩ v2 ⟨g2,rfl,hg2,hc2⟩
 simp only [Act.put,zzG,zzE,zzF]
 have heb:=e.below
 obtain ⟨V2,hV2⟩:∃ x:World,x=e.to:=⟨_,rfl⟩
 rw [← hV2] at heb hc2 o2 ⊢
 clear hV2 e
 have hez:=heb.size
 refine zA2 zMv rfl _ _ rfl W1.heap.size a2 n c2 _ rfl o2 (some ⟨g2,0,none⟩) 1 1 [.int .i64 x0,.int .i64 x1,.int .i64 x2] rfl (fun h => by cases h) rfl hc2.src (fun u hu => by simp at hu;rcases hu with rfl | rfl | rfl <;> rfl) (by unfold maxLen;omega) (by omega) (by omega) ?_
 intro a7 c7 w7 o7 b7
 go_wp2
 go_ret
 exact ⟨⟨a7,c7,rfl,o7.base_le t1.size⟩,t1.trans ((heb.trans b7).mono t1.size)⟩
theorem zKm:(Tryz.prog.info? 3).map (fun i => (i.zero,i.size,i.bytes))=some (some (.int .i64 0),1,8):=by kernel_rfl
theorem zMw:Elem Tryz.prog 22 3 (.int .i64 0) 1 8:=⟨Tryz.underlying22,info_parts zKm,rfl,by decide⟩
theorem zFP (a:Option Addr) (n c:Nat) (vs:List Value) (w:World) (hs:SrcAt w a vs) (hl:vs.length=n * 1) (hn:a=none→n=0∧c=0) (h1:∀ u ∈ vs,u.oneCell'=true) (hk:n≤100000) :
  Calls Tryz.prog 132 #[.slice a n c] w fun e w' => (∃ a' c',e=.returned (.slice a' n c')∧OwnL 3 1 w.heap.size w' a' c' n vs)∧Below w.heap.size w w':=by
 have hnil:∀ w,(binOp .eql 22 (.slice a n c) (.slice none 0 0)).run Tryz.prog w=.ok (.bool a.isNone) w:=fun w => Lib.run_eql_slice_nil w _ _ _ _ _ _ _ Tryz.underlying22
 cases a with
 | none =>
  obtain ⟨rfl,rfl⟩:=hn rfl
  obtain rfl:vs=[]:=List.eq_nil_of_length_eq_zero (by simpa using hl)
  have hnil:∀ w,(binOp .eql 22 (.slice none 0 0) (.slice none 0 0)).run Tryz.prog w=.ok (.bool true) w:=fun w => Lib.run_eql_slice_nil w _ _ _ _ _ _ _ Tryz.underlying22
  show Calls Tryz.prog 132 #[.slice none 0 0] w _
  go_enter Tryz.func132,Tryz.ntmps132
  go_wp2
  go_ret
  exact ⟨⟨none,0,rfl,OwnL.nil _ _ _ _⟩,Below.refl _ _⟩
 | some ad =>
  simp only [Option.isNone_some] at hnil
  have hb0:Below w.heap.size w (w.alloc (.cells #[] 3)):=(Below.refl _ _).alloc (Nat.le_refl _) _
  go_enter Tryz.func132,Tryz.ntmps132
  go_wp2_with (at_builtin;refine zA2 zMw rfl _ _ rfl w.heap.size _ _ _ _ rfl (OwnL.lit #[] (Nat.le_refl _) (by decide) rfl) (some ad) n c vs rfl hn hl (zAO hs hb0) h1 (by unfold maxLen;omega) (by omega) hb0.size ?_)
  intro a' c' w' h1 h2
  go_wp2
  go_ret
  exact ⟨⟨a',c',by simp,by simpa using h1⟩,hb0.trans h2⟩
theorem zGw (a:Option Addr) (n c:Nat) (vs:List Value) (w:World) (hs:SrcAt w a vs) (hl:vs.length=n * 1) (hn:a=none→n=0∧c=0) (h1:∀ u ∈ vs,u.oneCell'=true) (hk:n≤100000) (x0:Int) :
  Calls Tryz.prog 292 #[.slice a n c,.int .i64 x0] w fun e w' => (∃ a' c',e=.returned (.slice a' (n + 1) c')∧OwnL 3 1 w.heap.size w' a' c' (n + 1) (vs ++ [.int .i64 x0]))∧Below w.heap.size w w':=by
 go_enter Tryz.func292,Tryz.ntmps292
 go_wp2_with fail
 go_at_call 132
 refine (zFP a n c vs w hs hl hn h1 hk).mono ?_
 rintro e W1 ⟨⟨a2,c2,rfl,o2⟩,heb⟩
 have hb1:Below w.heap.size W1 (W1.alloc (.cells #[.int .i64 x0] 3)):=((Below.refl _ _).alloc (Nat.le_refl _) _).mono heb.size
 have o3:OwnL 3 1 w.heap.size (W1.alloc (.cells #[.int .i64 x0] 3)) a2 c2 n vs:=o2.kept ((Below.refl _ _).alloc (Nat.le_refl _) _)
 have C3:Cells (W1.alloc (.cells #[.int .i64 x0] 3)) W1.heap.size #[.int .i64 x0] 3:=Cells.new _ _ _
 go_wp2_with (at_builtin;refine zA2 zMw rfl _ _ rfl w.heap.size a2 n c2 _ rfl o3 (some ⟨W1.heap.size,0,none⟩) 1 1 [.int .i64 x0] rfl (fun h => by cases h) rfl C3.src (fun u hu => by simp at hu;subst hu;rfl) (by unfold maxLen;omega) (by omega) (by have:=heb.size;have:=hb1.size;omega) ?_)
 intro a7 c7 w7 o7 b7
 go_wp2
 go_ret
 exact ⟨⟨a7,c7,rfl,o7⟩,heb.trans (hb1.trans b7)⟩
theorem zIw:(Tryz.prog.info? 189).map (fun i => (i.zero,i.size,i.bytes))=some (some (.agg #[.int .i64 0,.int .i64 0]),2,16):=by kernel_rfl
theorem zEP:Elem Tryz.prog 48 189 (.agg #[.int .i64 0,.int .i64 0]) 2 16:=⟨Tryz.underlying48,info_parts zIw,rfl,by decide⟩
theorem zGB (a:Option Addr) (n c:Nat) (vs:List Value) (w:World) (hs:SrcAt w a vs) (hl:vs.length=n * 2) (hn:a=none→n=0∧c=0) (h1:∀ u ∈ vs,u.oneCell'=true) (hk:n≤100000) :
  Calls Tryz.prog 142 #[.slice a n c] w fun e w' => (∃ a' c',e=.returned (.slice a' n c')∧OwnL 189 2 w.heap.size w' a' c' n vs)∧Below w.heap.size w w':=by
 have hnil:∀ w,(binOp .eql 48 (.slice a n c) (.slice none 0 0)).run Tryz.prog w=.ok (.bool a.isNone) w:=fun w => Lib.run_eql_slice_nil w _ _ _ _ _ _ _ Tryz.underlying48
 cases a with
 | none =>
  obtain ⟨rfl,rfl⟩:=hn rfl
  obtain rfl:vs=[]:=List.eq_nil_of_length_eq_zero (by simpa using hl)
  have hnil:∀ w,(binOp .eql 48 (.slice none 0 0) (.slice none 0 0)).run Tryz.prog w=.ok (.bool true) w:=fun w => Lib.run_eql_slice_nil w _ _ _ _ _ _ _ Tryz.underlying48
  show Calls Tryz.prog 142 #[.slice none 0 0] w _
  go_enter Tryz.func142,Tryz.ntmps142
  go_wp2
  go_ret
  exact ⟨⟨none,0,rfl,OwnL.nil _ _ _ _⟩,Below.refl _ _⟩
 | some ad =>
  simp only [Option.isNone_some] at hnil
  have hb0:Below w.heap.size w (w.alloc (.cells #[] 189)):=(Below.refl _ _).alloc (Nat.le_refl _) _
  go_enter Tryz.func142,Tryz.ntmps142
  go_wp2_with (at_builtin;refine zA2 zEP rfl _ _ rfl w.heap.size _ _ _ _ rfl (OwnL.lit #[] (Nat.le_refl _) (by decide) rfl) (some ad) n c vs rfl hn hl (zAO hs hb0) h1 (by unfold maxLen;omega) (by omega) hb0.size ?_)
  intro a' c' w' h1 h2
  go_wp2
  go_ret
  exact ⟨⟨a',c',by simp,by simpa using h1⟩,hb0.trans h2⟩
theorem zNq (a:Option Addr) (n c:Nat) (vs:List Value) (w:World) (hs:SrcAt w a vs) (hl:vs.length=n * 2) (hn:a=none→n=0∧c=0) (h1:∀ u ∈ vs,u.oneCell'=true) (hk:n≤100000) (x0 x1:Int) :
  Calls Tryz.prog 293 #[.slice a n c,.agg #[.int .i64 x0,.int .i64 x1]] w fun e w' => (∃ a' c',e=.returned (.slice a' (n + 1) c')∧OwnL 189 2 w.heap.size w' a' c' (n + 1) (vs ++ [.int .i64 x0,.int .i64 x1]))∧Below w.heap.size w w':=by
 obtain ⟨W1,hW⟩:∃ z:World,z=w.alloc (.cells #[.int .i64 x0,.int .i64 x1] 189):=⟨_,rfl⟩
 have t1:Below w.heap.size w W1:=by rw [hW];exact (Below.refl _ _).alloc (Nat.le_refl _) _
 have C1:Cells W1 w.heap.size #[.int .i64 x0,.int .i64 x1] 189:=by rw [hW];exact Cells.new _ _ _
 have k0:=C1.cell 0
 have k1:=C1.cell 1
 simp at k0 k1
 have lB:=C1.lt
 have hs1:=zAO hs t1
 go_enter Tryz.func293,Tryz.ntmps293
 go_upto_region 1 with fail
 rw [← hW]
 clear hW
 (refine zAD 4 [] [4,5] 10 [true,false,true,false] [OwnV 189 2 W1.heap.size n vs,LitV W1.heap.size 1 #[.int .i64 x0,.int .i64 x1] 189] (by kernel_rfl) (by kernel_rfl) rfl (zAB (fun v w w' h hb => h.kept hb) (zAB (fun v w w' h hb => h.kept hb) zAR)) ?_;simp only [zAU,List.filterMap_cons,List.filterMap_nil,zzH,zzI,zzJ];(repeat (refine zAM _ rfl (fun w => (by go_simp;rfl)) ?_));refine zAS ?_;simp only [zAF,zAt,Act.put,zzG,zzE,zzF,zzA,zzB,zzC,zzD];(repeat (refine zAL (fun K hK => ?_);go_simp;first | (refine hK _ ?_;clear hK K) | (apply Exists.intro;refine ⟨fun ex => ?_,hK _ ?_⟩;(fail);clear hK K)));refine zAQ ?_;simp only [zAT,under,zAZ,and_true,List.nil_append,List.cons_append])
 refine ⟨⟨fun e => ?_,fun e v1 h1 => ?_⟩,fun e => ?_⟩
 ·go_simp
  refine (zGB a n c vs e.to (zAO hs1 e.below) hl hn h1 hk).mono ?_
  rintro _ _ ⟨⟨a',c',rfl,o⟩,b⟩
  exact ⟨b,a',c',rfl,o.base_le e.size⟩
 ·go_simp
  exact ⟨(Below.refl _ _).alloc (Nat.le_refl _) _,e.to.heap.size,rfl,e.size,Cells.new _ _ _⟩
 rintro v1 ⟨a2,c2,rfl,o2⟩ v2 ⟨g2,rfl,hg2,hc2⟩
 simp only [Act.put,zzG,zzE,zzF]
 have heb:=e.below
 obtain ⟨V2,hV2⟩:∃ x:World,x=e.to:=⟨_,rfl⟩
 rw [← hV2] at heb hc2 o2 ⊢
 clear hV2 e
 have hez:=heb.size
 refine zA2 zEP rfl _ _ rfl W1.heap.size a2 n c2 _ rfl o2 (some ⟨g2,0,none⟩) 1 1 [.int .i64 x0,.int .i64 x1] rfl (fun h => by cases h) rfl hc2.src (fun u hu => by simp at hu;rcases hu with rfl | rfl <;> rfl) (by unfold maxLen;omega) (by omega) (by omega) ?_
 intro a7 c7 w7 o7 b7
 go_wp2
 go_ret
 exact ⟨⟨a7,c7,rfl,o7.base_le t1.size⟩,t1.trans ((heb.trans b7).mono t1.size)⟩
theorem zID:(Tryz.prog.info? 150).map (fun i => (i.zero,i.size,i.bytes))=some (some (.agg #[.slice none 0 0,.bool false]),2,32):=by kernel_rfl
theorem zIO:Elem Tryz.prog 49 150 (.agg #[.slice none 0 0,.bool false]) 2 32:=⟨Tryz.underlying49,info_parts zID,rfl,by decide⟩
theorem zEf (a:Option Addr) (n c:Nat) (vs:List Value) (w:World) (hs:SrcAt w a vs) (hl:vs.length=n * 2) (hn:a=none→n=0∧c=0) (h1:∀ u ∈ vs,u.oneCell'=true) (hk:n≤100000) :
  Calls Tryz.prog 143 #[.slice a n c] w fun e w' => (∃ a' c',e=.returned (.slice a' n c')∧OwnL 150 2 w.heap.size w' a' c' n vs)∧Below w.heap.size w w':=by
 have hnil:∀ w,(binOp .eql 49 (.slice a n c) (.slice none 0 0)).run Tryz.prog w=.ok (.bool a.isNone) w:=fun w => Lib.run_eql_slice_nil w _ _ _ _ _ _ _ Tryz.underlying49
 cases a with
 | none =>
  obtain ⟨rfl,rfl⟩:=hn rfl
  obtain rfl:vs=[]:=List.eq_nil_of_length_eq_zero (by simpa using hl)
  have hnil:∀ w,(binOp .eql 49 (.slice none 0 0) (.slice none 0 0)).run Tryz.prog w=.ok (.bool true) w:=fun w => Lib.run_eql_slice_nil w _ _ _ _ _ _ _ Tryz.underlying49
  show Calls Tryz.prog 143 #[.slice none 0 0] w _
  go_enter Tryz.func143,Tryz.ntmps143
  go_wp2
  go_ret
  exact ⟨⟨none,0,rfl,OwnL.nil _ _ _ _⟩,Below.refl _ _⟩
 | some ad =>
  simp only [Option.isNone_some] at hnil
  have hb0:Below w.heap.size w (w.alloc (.cells #[] 150)):=(Below.refl _ _).alloc (Nat.le_refl _) _
  go_enter Tryz.func143,Tryz.ntmps143
  go_wp2_with (at_builtin;refine zA2 zIO rfl _ _ rfl w.heap.size _ _ _ _ rfl (OwnL.lit #[] (Nat.le_refl _) (by decide) rfl) (some ad) n c vs rfl hn hl (zAO hs hb0) h1 (by unfold maxLen;omega) (by omega) hb0.size ?_)
  intro a' c' w' h1 h2
  go_wp2
  go_ret
  exact ⟨⟨a',c',by simp,by simpa using h1⟩,hb0.trans h2⟩
theorem zMK (a:Option Addr) (n c:Nat) (vs:List Value) (w:World) (hs:SrcAt w a vs) (hl:vs.length=n * 2) (hn:a=none→n=0∧c=0) (h1:∀ u ∈ vs,u.oneCell'=true) (hk:n≤100000) (x0:Option Addr) (xl xc:Nat) (x1:Bool) :
  Calls Tryz.prog 296 #[.slice a n c,.agg #[.slice x0 xl xc,.bool x1]] w fun e w' => (∃ a' c',e=.returned (.slice a' (n + 1) c')∧OwnL 150 2 w.heap.size w' a' c' (n + 1) (vs ++ [.slice x0 xl xc,.bool x1]))∧Below w.heap.size w w':=by
 obtain ⟨W1,hW⟩:∃ z:World,z=w.alloc (.cells #[.slice x0 xl xc,.bool x1] 150):=⟨_,rfl⟩
 have t1:Below w.heap.size w W1:=by rw [hW];exact (Below.refl _ _).alloc (Nat.le_refl _) _
 have C1:Cells W1 w.heap.size #[.slice x0 xl xc,.bool x1] 150:=by rw [hW];exact Cells.new _ _ _
 have k0:=C1.cell 0
 have k1:=C1.cell 1
 simp at k0 k1
 have lB:=C1.lt
 have hs1:=zAO hs t1
 go_enter Tryz.func296,Tryz.ntmps296
 go_upto_region 1 with fail
 rw [← hW]
 clear hW
 (refine zAD 4 [] [4,5] 10 [true,false,true,false] [OwnV 150 2 W1.heap.size n vs,LitV W1.heap.size 1 #[.slice x0 xl xc,.bool x1] 150] (by kernel_rfl) (by kernel_rfl) rfl (zAB (fun v w w' h hb => h.kept hb) (zAB (fun v w w' h hb => h.kept hb) zAR)) ?_;simp only [zAU,List.filterMap_cons,List.filterMap_nil,zzH,zzI,zzJ];(repeat (refine zAM _ rfl (fun w => (by go_simp;rfl)) ?_));refine zAS ?_;simp only [zAF,zAt,Act.put,zzG,zzE,zzF,zzA,zzB,zzC,zzD];(repeat (refine zAL (fun K hK => ?_);go_simp;first | (refine hK _ ?_;clear hK K) | (apply Exists.intro;refine ⟨fun ex => ?_,hK _ ?_⟩;(fail);clear hK K)));refine zAQ ?_;simp only [zAT,under,zAZ,and_true,List.nil_append,List.cons_append])
 refine ⟨⟨fun e => ?_,fun e v1 h1 => ?_⟩,fun e => ?_⟩
 ·go_simp
  refine (zEf a n c vs e.to (zAO hs1 e.below) hl hn h1 hk).mono ?_
  rintro _ _ ⟨⟨a',c',rfl,o⟩,b⟩
  exact ⟨b,a',c',rfl,o.base_le e.size⟩
 ·go_simp
  exact ⟨(Below.refl _ _).alloc (Nat.le_refl _) _,e.to.heap.size,rfl,e.size,Cells.new _ _ _⟩
 rintro v1 ⟨a2,c2,rfl,o2⟩ v2 ⟨g2,rfl,hg2,hc2⟩
 simp only [Act.put,zzG,zzE,zzF]
 have heb:=e.below
 obtain ⟨V2,hV2⟩:∃ x:World,x=e.to:=⟨_,rfl⟩
 rw [← hV2] at heb hc2 o2 ⊢
 clear hV2 e
 have hez:=heb.size
 refine zA2 zIO rfl _ _ rfl W1.heap.size a2 n c2 _ rfl o2 (some ⟨g2,0,none⟩) 1 1 [.slice x0 xl xc,.bool x1] rfl (fun h => by cases h) rfl hc2.src (fun u hu => by simp at hu;rcases hu with rfl | rfl <;> rfl) (by unfold maxLen;omega) (by omega) (by omega) ?_
 intro a7 c7 w7 o7 b7
 go_wp2
 go_ret
 exact ⟨⟨a7,c7,rfl,o7.base_le t1.size⟩,t1.trans ((heb.trans b7).mono t1.size)⟩
theorem zKk:(Tryz.prog.info? 147).map (fun i => (i.zero,i.size,i.bytes))=some (some (.agg #[.int .i64 0,.int .i64 0,.slice none 0 0]),3,40):=by kernel_rfl
theorem zMu:Elem Tryz.prog 148 147 (.agg #[.int .i64 0,.int .i64 0,.slice none 0 0]) 3 40:=⟨Tryz.underlying148,info_parts zKk,rfl,by decide⟩
theorem zHP (a:Option Addr) (n c:Nat) (vs:List Value) (w:World) (hs:SrcAt w a vs) (hl:vs.length=n * 3) (hn:a=none→n=0∧c=0) (h1:∀ u ∈ vs,u.oneCell'=true) (hk:n≤100000) :
  Calls Tryz.prog 144 #[.slice a n c] w fun e w' => (∃ a' c',e=.returned (.slice a' n c')∧OwnL 147 3 w.heap.size w' a' c' n vs)∧Below w.heap.size w w':=by
 have hnil:∀ w,(binOp .eql 148 (.slice a n c) (.slice none 0 0)).run Tryz.prog w=.ok (.bool a.isNone) w:=fun w => Lib.run_eql_slice_nil w _ _ _ _ _ _ _ Tryz.underlying148
 cases a with
 | none =>
  obtain ⟨rfl,rfl⟩:=hn rfl
  obtain rfl:vs=[]:=List.eq_nil_of_length_eq_zero (by simpa using hl)
  have hnil:∀ w,(binOp .eql 148 (.slice none 0 0) (.slice none 0 0)).run Tryz.prog w=.ok (.bool true) w:=fun w => Lib.run_eql_slice_nil w _ _ _ _ _ _ _ Tryz.underlying148
  show Calls Tryz.prog 144 #[.slice none 0 0] w _
  go_enter Tryz.func144,Tryz.ntmps144
  go_wp2
  go_ret
  exact ⟨⟨none,0,rfl,OwnL.nil _ _ _ _⟩,Below.refl _ _⟩
 | some ad =>
  simp only [Option.isNone_some] at hnil
  have hb0:Below w.heap.size w (w.alloc (.cells #[] 147)):=(Below.refl _ _).alloc (Nat.le_refl _) _
  go_enter Tryz.func144,Tryz.ntmps144
  go_wp2_with (at_builtin;refine zA2 zMu rfl _ _ rfl w.heap.size _ _ _ _ rfl (OwnL.lit #[] (Nat.le_refl _) (by decide) rfl) (some ad) n c vs rfl hn hl (zAO hs hb0) h1 (by unfold maxLen;omega) (by omega) hb0.size ?_)
  intro a' c' w' h1 h2
  go_wp2
  go_ret
  exact ⟨⟨a',c',by simp,by simpa using h1⟩,hb0.trans h2⟩
theorem zPM (a:Option Addr) (n c:Nat) (vs:List Value) (w:World) (hs:SrcAt w a vs) (hl:vs.length=n * 3) (hn:a=none→n=0∧c=0) (h1:∀ u ∈ vs,u.oneCell'=true) (hk:n≤100000) (x0 x1:Int) (x2:Option Addr) (xl xc:Nat) :
  Calls Tryz.prog 299 #[.slice a n c,.agg #[.int .i64 x0,.int .i64 x1,.slice x2 xl xc]] w fun e w' => (∃ a' c',e=.returned (.slice a' (n + 1) c')∧OwnL 147 3 w.heap.size w' a' c' (n + 1) (vs ++ [.int .i64 x0,.int .i64 x1,.slice x2 xl xc]))∧Below w.heap.size w w':=by
 obtain ⟨W1,hW⟩:∃ z:World,z=w.alloc (.cells #[.int .i64 x0,.int .i64 x1,.slice x2 xl xc] 147):=⟨_,rfl⟩
 have t1:Below w.heap.size w W1:=by rw [hW];exact (Below.refl _ _).alloc (Nat.le_refl _) _
 have C1:Cells W1 w.heap.size #[.int .i64 x0,.int .i64 x1,.slice x2 xl xc] 147:=by rw [hW];exact Cells.new _ _ _
 have k0:=C1.cell 0
 have k1:=C1.cell 1
 have k2:=C1.cell 2
 simp at k0 k1 k2
 have lB:=C1.lt
 have hs1:=zAO hs t1
 go_enter Tryz.func299,Tryz.ntmps299
 go_upto_region 1 with fail
 rw [← hW]
 clear hW
 (refine zAD 4 [] [4,5] 10 [true,false,true,false] [OwnV 147 3 W1.heap.size n vs,LitV W1.heap.size 1 #[.int .i64 x0,.int .i64 x1,.slice x2 xl xc] 147] (by kernel_rfl) (by kernel_rfl) rfl (zAB (fun v w w' h hb => h.kept hb) (zAB (fun v w w' h hb => h.kept hb) zAR)) ?_;simp only [zAU,List.filterMap_cons,List.filterMap_nil,zzH,zzI,zzJ];(repeat (refine zAM _ rfl (fun w => (by go_simp;rfl)) ?_));refine zAS ?_;simp only [zAF,zAt,Act.put,zzG,zzE,zzF,zzA,zzB,zzC,zzD];(repeat (refine zAL (fun K hK => ?_);go_simp;first | (refine hK _ ?_;clear hK K) | (apply Exists.intro;refine ⟨fun ex => ?_,hK _ ?_⟩;(fail);clear hK K)));refine zAQ ?_;simp only [zAT,under,zAZ,and_true,List.nil_append,List.cons_append])
 refine ⟨⟨fun e => ?_,fun e v1 h1 => ?_⟩,fun e => ?_⟩
 ·go_simp
  refine (zHP a n c vs e.to (zAO hs1 e.below) hl hn h1 hk).mono ?_
  rintro _ _ ⟨⟨a',c',rfl,o⟩,b⟩
  exact ⟨b,a',c',rfl,o.base_le e.size⟩
 ·go_simp
  exact ⟨(Below.refl _ _).alloc (Nat.le_refl _) _,e.to.heap.size,rfl,e.size,Cells.new _ _ _⟩
 rintro v1 ⟨a2,c2,rfl,o2⟩ v2 ⟨g2,rfl,hg2,hc2⟩
 simp only [Act.put,zzG,zzE,zzF]
 have heb:=e.below
 obtain ⟨V2,hV2⟩:∃ x:World,x=e.to:=⟨_,rfl⟩
 rw [← hV2] at heb hc2 o2 ⊢
 clear hV2 e
 have hez:=heb.size
 refine zA2 zMu rfl _ _ rfl W1.heap.size a2 n c2 _ rfl o2 (some ⟨g2,0,none⟩) 1 1 [.int .i64 x0,.int .i64 x1,.slice x2 xl xc] rfl (fun h => by cases h) rfl hc2.src (fun u hu => by simp at hu;rcases hu with rfl | rfl | rfl <;> rfl) (by unfold maxLen;omega) (by omega) (by omega) ?_
 intro a7 c7 w7 o7 b7
 go_wp2
 go_ret
 exact ⟨⟨a7,c7,rfl,o7.base_le t1.size⟩,t1.trans ((heb.trans b7).mono t1.size)⟩
theorem zIE:(Tryz.prog.info? 70).map (fun i => (i.zero,i.size,i.bytes))=some (some (.agg #[.int .i64 0,.int .i64 0]),2,16):=by kernel_rfl
theorem zIP:Elem Tryz.prog 62 70 (.agg #[.int .i64 0,.int .i64 0]) 2 16:=⟨Tryz.underlying62,info_parts zIE,rfl,by decide⟩
theorem zGg (a:Option Addr) (n c:Nat) (vs:List Value) (w:World) (hs:SrcAt w a vs) (hl:vs.length=n * 2) (hn:a=none→n=0∧c=0) (h1:∀ u ∈ vs,u.oneCell'=true) (hk:n≤100000) :
  Calls Tryz.prog 145 #[.slice a n c] w fun e w' => (∃ a' c',e=.returned (.slice a' n c')∧OwnL 70 2 w.heap.size w' a' c' n vs)∧Below w.heap.size w w':=by
 have hnil:∀ w,(binOp .eql 62 (.slice a n c) (.slice none 0 0)).run Tryz.prog w=.ok (.bool a.isNone) w:=fun w => Lib.run_eql_slice_nil w _ _ _ _ _ _ _ Tryz.underlying62
 cases a with
 | none =>
  obtain ⟨rfl,rfl⟩:=hn rfl
  obtain rfl:vs=[]:=List.eq_nil_of_length_eq_zero (by simpa using hl)
  have hnil:∀ w,(binOp .eql 62 (.slice none 0 0) (.slice none 0 0)).run Tryz.prog w=.ok (.bool true) w:=fun w => Lib.run_eql_slice_nil w _ _ _ _ _ _ _ Tryz.underlying62
  show Calls Tryz.prog 145 #[.slice none 0 0] w _
  go_enter Tryz.func145,Tryz.ntmps145
  go_wp2
  go_ret
  exact ⟨⟨none,0,rfl,OwnL.nil _ _ _ _⟩,Below.refl _ _⟩
 | some ad =>
  simp only [Option.isNone_some] at hnil
  have hb0:Below w.heap.size w (w.alloc (.cells #[] 70)):=(Below.refl _ _).alloc (Nat.le_refl _) _
  go_enter Tryz.func145,Tryz.ntmps145
  go_wp2_with (at_builtin;refine zA2 zIP rfl _ _ rfl w.heap.size _ _ _ _ rfl (OwnL.lit #[] (Nat.le_refl _) (by decide) rfl) (some ad) n c vs rfl hn hl (zAO hs hb0) h1 (by unfold maxLen;omega) (by omega) hb0.size ?_)
  intro a' c' w' h1 h2
  go_wp2
  go_ret
  exact ⟨⟨a',c',by simp,by simpa using h1⟩,hb0.trans h2⟩
theorem zML (a:Option Addr) (n c:Nat) (vs:List Value) (w:World) (hs:SrcAt w a vs) (hl:vs.length=n * 2) (hn:a=none→n=0∧c=0) (h1:∀ u ∈ vs,u.oneCell'=true) (hk:n≤100000) (x0 x1:Int) :
  Calls Tryz.prog 300 #[.slice a n c,.agg #[.int .i64 x0,.int .i64 x1]] w fun e w' => (∃ a' c',e=.returned (.slice a' (n + 1) c')∧OwnL 70 2 w.heap.size w' a' c' (n + 1) (vs ++ [.int .i64 x0,.int .i64 x1]))∧Below w.heap.size w w':=by
 obtain ⟨W1,hW⟩:∃ z:World,z=w.alloc (.cells #[.int .i64 x0,.int .i64 x1] 70):=⟨_,rfl⟩
 have t1:Below w.heap.size w W1:=by rw [hW];exact (Below.refl _ _).alloc (Nat.le_refl _) _
 have C1:Cells W1 w.heap.size #[.int .i64 x0,.int .i64 x1] 70:=by rw [hW];exact Cells.new _ _ _
 have k0:=C1.cell 0
 have k1:=C1.cell 1
 simp at k0 k1
 have lB:=C1.lt
 have hs1:=zAO hs t1
 go_enter Tryz.func300,Tryz.ntmps300
 go_upto_region 1 with fail
 rw [← hW]
 clear hW
 (refine zAD 4 [] [4,5] 10 [true,false,true,false] [OwnV 70 2 W1.heap.size n vs,LitV W1.heap.size 1 #[.int .i64 x0,.int .i64 x1] 70] (by kernel_rfl) (by kernel_rfl) rfl (zAB (fun v w w' h hb => h.kept hb) (zAB (fun v w w' h hb => h.kept hb) zAR)) ?_;simp only [zAU,List.filterMap_cons,List.filterMap_nil,zzH,zzI,zzJ];(repeat (refine zAM _ rfl (fun w => (by go_simp;rfl)) ?_));refine zAS ?_;simp only [zAF,zAt,Act.put,zzG,zzE,zzF,zzA,zzB,zzC,zzD];(repeat (refine zAL (fun K hK => ?_);go_simp;first | (refine hK _ ?_;clear hK K) | (apply Exists.intro;refine ⟨fun ex => ?_,hK _ ?_⟩;(fail);clear hK K)));refine zAQ ?_;simp only [zAT,under,zAZ,and_true,List.nil_append,List.cons_append])
 refine ⟨⟨fun e => ?_,fun e v1 h1 => ?_⟩,fun e => ?_⟩
 ·go_simp
  refine (zGg a n c vs e.to (zAO hs1 e.below) hl hn h1 hk).mono ?_
  rintro _ _ ⟨⟨a',c',rfl,o⟩,b⟩
  exact ⟨b,a',c',rfl,o.base_le e.size⟩
 ·go_simp
  exact ⟨(Below.refl _ _).alloc (Nat.le_refl _) _,e.to.heap.size,rfl,e.size,Cells.new _ _ _⟩
 rintro v1 ⟨a2,c2,rfl,o2⟩ v2 ⟨g2,rfl,hg2,hc2⟩
 simp only [Act.put,zzG,zzE,zzF]
 have heb:=e.below
 obtain ⟨V2,hV2⟩:∃ x:World,x=e.to:=⟨_,rfl⟩
 rw [← hV2] at heb hc2 o2 ⊢
 clear hV2 e
 have hez:=heb.size
 refine zA2 zIP rfl _ _ rfl W1.heap.size a2 n c2 _ rfl o2 (some ⟨g2,0,none⟩) 1 1 [.int .i64 x0,.int .i64 x1] rfl (fun h => by cases h) rfl hc2.src (fun u hu => by simp at hu;rcases hu with rfl | rfl <;> rfl) (by unfold maxLen;omega) (by omega) (by omega) ?_
 intro a7 c7 w7 o7 b7
 go_wp2
 go_ret
 exact ⟨⟨a7,c7,rfl,o7.base_le t1.size⟩,t1.trans ((heb.trans b7).mono t1.size)⟩
theorem zKn:(Tryz.prog.info? 182).map (fun i => (i.zero,i.size,i.bytes))=some (some (.agg #[.int .i64 0,.int .i64 0,.bool false]),3,24):=by kernel_rfl
theorem zFw:Elem Tryz.prog 52 182 (.agg #[.int .i64 0,.int .i64 0,.bool false]) 3 24:=⟨Tryz.underlying52,info_parts zKn,rfl,by decide⟩
theorem zHQ (a:Option Addr) (n c:Nat) (vs:List Value) (w:World) (hs:SrcAt w a vs) (hl:vs.length=n * 3) (hn:a=none→n=0∧c=0) (h1:∀ u ∈ vs,u.oneCell'=true) (hk:n≤100000) :
  Calls Tryz.prog 133 #[.slice a n c] w fun e w' => (∃ a' c',e=.returned (.slice a' n c')∧OwnL 182 3 w.heap.size w' a' c' n vs)∧Below w.heap.size w w':=by
 have hnil:∀ w,(binOp .eql 52 (.slice a n c) (.slice none 0 0)).run Tryz.prog w=.ok (.bool a.isNone) w:=fun w => Lib.run_eql_slice_nil w _ _ _ _ _ _ _ Tryz.underlying52
 cases a with
 | none =>
  obtain ⟨rfl,rfl⟩:=hn rfl
  obtain rfl:vs=[]:=List.eq_nil_of_length_eq_zero (by simpa using hl)
  have hnil:∀ w,(binOp .eql 52 (.slice none 0 0) (.slice none 0 0)).run Tryz.prog w=.ok (.bool true) w:=fun w => Lib.run_eql_slice_nil w _ _ _ _ _ _ _ Tryz.underlying52
  show Calls Tryz.prog 133 #[.slice none 0 0] w _
  go_enter Tryz.func133,Tryz.ntmps133
  go_wp2
  go_ret
  exact ⟨⟨none,0,rfl,OwnL.nil _ _ _ _⟩,Below.refl _ _⟩
 | some ad =>
  simp only [Option.isNone_some] at hnil
  have hb0:Below w.heap.size w (w.alloc (.cells #[] 182)):=(Below.refl _ _).alloc (Nat.le_refl _) _
  go_enter Tryz.func133,Tryz.ntmps133
  go_wp2_with (at_builtin;refine zA2 zFw rfl _ _ rfl w.heap.size _ _ _ _ rfl (OwnL.lit #[] (Nat.le_refl _) (by decide) rfl) (some ad) n c vs rfl hn hl (zAO hs hb0) h1 (by unfold maxLen;omega) (by omega) hb0.size ?_)
  intro a' c' w' h1 h2
  go_wp2
  go_ret
  exact ⟨⟨a',c',by simp,by simpa using h1⟩,hb0.trans h2⟩
theorem zPO (a:Option Addr) (n c:Nat) (vs:List Value) (w:World) (hs:SrcAt w a vs) (hl:vs.length=n * 3) (hn:a=none→n=0∧c=0) (h1:∀ u ∈ vs,u.oneCell'=true) (hk:n≤100000) (x0 x1:Int) (x2:Bool) :
  Calls Tryz.prog 329 #[.slice a n c,.agg #[.int .i64 x0,.int .i64 x1,.bool x2]] w fun e w' => (∃ a' c',e=.returned (.slice a' (n + 1) c')∧OwnL 182 3 w.heap.size w' a' c' (n + 1) (vs ++ [.int .i64 x0,.int .i64 x1,.bool x2]))∧Below w.heap.size w w':=by
 obtain ⟨W1,hW⟩:∃ z:World,z=w.alloc (.cells #[.int .i64 x0,.int .i64 x1,.bool x2] 182):=⟨_,rfl⟩
 have t1:Below w.heap.size w W1:=by rw [hW];exact (Below.refl _ _).alloc (Nat.le_refl _) _
 have C1:Cells W1 w.heap.size #[.int .i64 x0,.int .i64 x1,.bool x2] 182:=by rw [hW];exact Cells.new _ _ _
 have k0:=C1.cell 0
 have k1:=C1.cell 1
 have k2:=C1.cell 2
 simp at k0 k1 k2
 have lB:=C1.lt
 have hs1:=zAO hs t1
 go_enter Tryz.func329,Tryz.ntmps329
 go_upto_region 1 with fail
 rw [← hW]
 clear hW
 (refine zAD 4 [] [4,5] 10 [true,false,true,false] [OwnV 182 3 W1.heap.size n vs,LitV W1.heap.size 1 #[.int .i64 x0,.int .i64 x1,.bool x2] 182] (by kernel_rfl) (by kernel_rfl) rfl (zAB (fun v w w' h hb => h.kept hb) (zAB (fun v w w' h hb => h.kept hb) zAR)) ?_;simp only [zAU,List.filterMap_cons,List.filterMap_nil,zzH,zzI,zzJ];(repeat (refine zAM _ rfl (fun w => (by go_simp;rfl)) ?_));refine zAS ?_;simp only [zAF,zAt,Act.put,zzG,zzE,zzF,zzA,zzB,zzC,zzD];(repeat (refine zAL (fun K hK => ?_);go_simp;first | (refine hK _ ?_;clear hK K) | (apply Exists.intro;refine ⟨fun ex => ?_,hK _ ?_⟩;(fail);clear hK K)));refine zAQ ?_;simp only [zAT,under,zAZ,and_true,List.nil_append,List.cons_append])
 refine ⟨⟨fun e => ?_,fun e v1 h1 => ?_⟩,fun e => ?_⟩
 ·go_simp
  refine (zHQ a n c vs e.to (zAO hs1 e.below) hl hn h1 hk).mono ?_
  rintro _ _ ⟨⟨a',c',rfl,o⟩,b⟩
  exact ⟨b,a',c',rfl,o.base_le e.size⟩
 ·go_simp
  exact ⟨(Below.refl _ _).alloc (Nat.le_refl _) _,e.to.heap.size,rfl,e.size,Cells.new _ _ _⟩
 rintro v1 ⟨a2,c2,rfl,o2⟩ v2 ⟨g2,rfl,hg2,hc2⟩
 simp only [Act.put,zzG,zzE,zzF]
 have heb:=e.below
 obtain ⟨V2,hV2⟩:∃ x:World,x=e.to:=⟨_,rfl⟩
 rw [← hV2] at heb hc2 o2 ⊢
 clear hV2 e
 have hez:=heb.size
 refine zA2 zFw rfl _ _ rfl W1.heap.size a2 n c2 _ rfl o2 (some ⟨g2,0,none⟩) 1 1 [.int .i64 x0,.int .i64 x1,.bool x2] rfl (fun h => by cases h) rfl hc2.src (fun u hu => by simp at hu;rcases hu with rfl | rfl | rfl <;> rfl) (by unfold maxLen;omega) (by omega) (by omega) ?_
 intro a7 c7 w7 o7 b7
 go_wp2
 go_ret
 exact ⟨⟨a7,c7,rfl,o7.base_le t1.size⟩,t1.trans ((heb.trans b7).mono t1.size)⟩
theorem zKo:(Tryz.prog.info? 192).map (fun i => (i.zero,i.size,i.bytes))=some (some (.agg #[.int .i64 0,.int .i64 0,.int .i64 0,.slice none 0 0]),4,48):=by kernel_rfl
theorem zMx:Elem Tryz.prog 53 192 (.agg #[.int .i64 0,.int .i64 0,.int .i64 0,.slice none 0 0]) 4 48:=⟨Tryz.underlying53,info_parts zKo,rfl,by decide⟩
theorem zHR (a:Option Addr) (n c:Nat) (vs:List Value) (w:World) (hs:SrcAt w a vs) (hl:vs.length=n * 4) (hn:a=none→n=0∧c=0) (h1:∀ u ∈ vs,u.oneCell'=true) (hk:n≤100000) :
  Calls Tryz.prog 146 #[.slice a n c] w fun e w' => (∃ a' c',e=.returned (.slice a' n c')∧OwnL 192 4 w.heap.size w' a' c' n vs)∧Below w.heap.size w w':=by
 have hnil:∀ w,(binOp .eql 53 (.slice a n c) (.slice none 0 0)).run Tryz.prog w=.ok (.bool a.isNone) w:=fun w => Lib.run_eql_slice_nil w _ _ _ _ _ _ _ Tryz.underlying53
 cases a with
 | none =>
  obtain ⟨rfl,rfl⟩:=hn rfl
  obtain rfl:vs=[]:=List.eq_nil_of_length_eq_zero (by simpa using hl)
  have hnil:∀ w,(binOp .eql 53 (.slice none 0 0) (.slice none 0 0)).run Tryz.prog w=.ok (.bool true) w:=fun w => Lib.run_eql_slice_nil w _ _ _ _ _ _ _ Tryz.underlying53
  show Calls Tryz.prog 146 #[.slice none 0 0] w _
  go_enter Tryz.func146,Tryz.ntmps146
  go_wp2
  go_ret
  exact ⟨⟨none,0,rfl,OwnL.nil _ _ _ _⟩,Below.refl _ _⟩
 | some ad =>
  simp only [Option.isNone_some] at hnil
  have hb0:Below w.heap.size w (w.alloc (.cells #[] 192)):=(Below.refl _ _).alloc (Nat.le_refl _) _
  go_enter Tryz.func146,Tryz.ntmps146
  go_wp2_with (at_builtin;refine zA2 zMx rfl _ _ rfl w.heap.size _ _ _ _ rfl (OwnL.lit #[] (Nat.le_refl _) (by decide) rfl) (some ad) n c vs rfl hn hl (zAO hs hb0) h1 (by unfold maxLen;omega) (by omega) hb0.size ?_)
  intro a' c' w' h1 h2
  go_wp2
  go_ret
  exact ⟨⟨a',c',by simp,by simpa using h1⟩,hb0.trans h2⟩
theorem zPP (a:Option Addr) (n c:Nat) (vs:List Value) (w:World) (hs:SrcAt w a vs) (hl:vs.length=n * 4) (hn:a=none→n=0∧c=0) (h1:∀ u ∈ vs,u.oneCell'=true) (hk:n≤100000) (x0 x1 x2:Int) (x3:Option Addr) (xl xc:Nat) :
  Calls Tryz.prog 303 #[.slice a n c,.agg #[.int .i64 x0,.int .i64 x1,.int .i64 x2,.slice x3 xl xc]] w fun e w' => (∃ a' c',e=.returned (.slice a' (n + 1) c')∧OwnL 192 4 w.heap.size w' a' c' (n + 1) (vs ++ [.int .i64 x0,.int .i64 x1,.int .i64 x2,.slice x3 xl xc]))∧Below w.heap.size w w':=by
 obtain ⟨W1,hW⟩:∃ z:World,z=w.alloc (.cells #[.int .i64 x0,.int .i64 x1,.int .i64 x2,.slice x3 xl xc] 192):=⟨_,rfl⟩
 have t1:Below w.heap.size w W1:=by rw [hW];exact (Below.refl _ _).alloc (Nat.le_refl _) _
 have C1:Cells W1 w.heap.size #[.int .i64 x0,.int .i64 x1,.int .i64 x2,.slice x3 xl xc] 192:=by rw [hW];exact Cells.new _ _ _
 have k0:=C1.cell 0
 have k1:=C1.cell 1
 have k2:=C1.cell 2
 have k3:=C1.cell 3
 simp at k0 k1 k2 k3
 have lB:=C1.lt
 have hs1:=zAO hs t1
 go_enter Tryz.func303,Tryz.ntmps303
 go_upto_region 1 with fail
 rw [← hW]
 clear hW
 (refine zAD 4 [] [4,5] 10 [true,false,true,false] [OwnV 192 4 W1.heap.size n vs,LitV W1.heap.size 1 #[.int .i64 x0,.int .i64 x1,.int .i64 x2,.slice x3 xl xc] 192] (by kernel_rfl) (by kernel_rfl) rfl (zAB (fun v w w' h hb => h.kept hb) (zAB (fun v w w' h hb => h.kept hb) zAR)) ?_;simp only [zAU,List.filterMap_cons,List.filterMap_nil,zzH,zzI,zzJ];(repeat (refine zAM _ rfl (fun w => (by go_simp;rfl)) ?_));refine zAS ?_;simp only [zAF,zAt,Act.put,zzG,zzE,zzF,zzA,zzB,zzC,zzD];(repeat (refine zAL (fun K hK => ?_);go_simp;first | (refine hK _ ?_;clear hK K) | (apply Exists.intro;refine ⟨fun ex => ?_,hK _ ?_⟩;(fail);clear hK K)));refine zAQ ?_;simp only [zAT,under,zAZ,and_true,List.nil_append,List.cons_append])
 refine ⟨⟨fun e => ?_,fun e v1 h1 => ?_⟩,fun e => ?_⟩
 ·go_simp
  refine (zHR a n c vs e.to (zAO hs1 e.below) hl hn h1 hk).mono ?_
  rintro _ _ ⟨⟨a',c',rfl,o⟩,b⟩
  exact ⟨b,a',c',rfl,o.base_le e.size⟩
 ·go_simp
  exact ⟨(Below.refl _ _).alloc (Nat.le_refl _) _,e.to.heap.size,rfl,e.size,Cells.new _ _ _⟩
 rintro v1 ⟨a2,c2,rfl,o2⟩ v2 ⟨g2,rfl,hg2,hc2⟩
 simp only [Act.put,zzG,zzE,zzF]
 have heb:=e.below
 obtain ⟨V2,hV2⟩:∃ x:World,x=e.to:=⟨_,rfl⟩
 rw [← hV2] at heb hc2 o2 ⊢
 clear hV2 e
 have hez:=heb.size
 refine zA2 zMx rfl _ _ rfl W1.heap.size a2 n c2 _ rfl o2 (some ⟨g2,0,none⟩) 1 1 [.int .i64 x0,.int .i64 x1,.int .i64 x2,.slice x3 xl xc] rfl (fun h => by cases h) rfl hc2.src (fun u hu => by simp at hu;rcases hu with rfl | rfl | rfl | rfl <;> rfl) (by unfold maxLen;omega) (by omega) (by omega) ?_
 intro a7 c7 w7 o7 b7
 go_wp2
 go_ret
 exact ⟨⟨a7,c7,rfl,o7.base_le t1.size⟩,t1.trans ((heb.trans b7).mono t1.size)⟩
theorem OwnL.setAbove {E:TypeId} {size base:Nat} {w:World} {g c n:Nat} {xs:List Value} (h:OwnL E size base w (some ⟨g,0,none⟩) c n xs) {j:Nat} (hj:n * size≤j) (v:Value):OwnL E size base (w.setCell ⟨g,j,none⟩ v) (some ⟨g,0,none⟩) c n xs:=by
 refine ⟨h.1,?_⟩
 rcases h.2 with ⟨h1,_⟩ | ⟨g',cap,cur,hv,hbg,hg,hnc,hcm,hcs,ht⟩
 ·cases h1
 ·have e1:g=g':=by simp at hv;exact hv.1
  subst e1
  have hC:Cells w g cur E:=hg
  refine .inr ⟨g,cap,_,hv,hbg,hC.set j v,hnc,hcm,by simp;exact hcs,?_⟩
  rw [Array.toList_setIfInBounds,List.take_set_of_le hj]
  exact ht
theorem OwnL.setsAbove {E:TypeId} {size base g c n:Nat} {xs:List Value}:∀ (vs:List Value) (j:Nat) (w:World),OwnL E size base w (some ⟨g,0,none⟩) c n xs→n * size≤j→OwnL E size base (w.setCells g j vs) (some ⟨g,0,none⟩) c n xs
 | [],_,_,h,_ => h
 | v :: r,j,w,h,hj => OwnL.setsAbove r (j + 1) _ (h.setAbove hj v) (by omega)
theorem Below.sets {base g:Nat} (hg:base≤g) {w0:World}:∀ (vs:List Value) (j:Nat) (w:World),Below base w0 w→Below base w0 (w.setCells g j vs)
 | [],_,_,h => h
 | v :: r,j,w,h => Below.sets hg r (j + 1) _ (h.setCell (p:=⟨g,j,none⟩) hg v)
theorem zEA {P:Program} (w:World) (t e ty:TypeId) (z:Value) (ht:P.underlying t=some (.slice e)) (hv:∀ w,(zeroValue e).run P w=.ok z w) (vs:List Value) (hz:z.cells.toList=vs) (h1:∀ u ∈ vs,u.oneCell'=true) (b o c:Nat)
  (hc:∀ j,j < vs.length→(w.cell? ⟨b,o + j,none⟩).isSome=true) (hf:∀ j,j < vs.length→w.frozen? ⟨b,o + j,none⟩=false) :
  (Builtin.clear_ #[t] ty #[.slice (some ⟨b,o,none⟩) 1 c]).run P w=.ok (.tuple #[]) (w.setCells b o vs):=by
 have hzc:(Builtin.zeroCells z.cells 1).toList=vs:=by
  rw [← hz]
  simp [Builtin.zeroCells]
  apply List.ext_getElem
  ·simp
  ·intro i h1 h2
   have:i < z.cells.size:=by simpa using h2
   simp [Nat.mod_eq_of_lt this,getElem!_pos z.cells i this]
 have hst:=run_storeCells_cells (P:=P) b o vs 0 w (by simpa using hc) (by simpa using hf) h1
 simp only [Nat.add_zero] at hst
 simp [Builtin.clear_,run_underlying ht,hv,hzc,hst]
theorem OwnL.room {E:TypeId} {size base:Nat} {w:World} {g c n:Nat} {xs:List Value} (h:OwnL E size base w (some ⟨g,0,none⟩) c n xs) {j:Nat} (hj:j < c * size):(w.cell? ⟨g,j,none⟩).isSome=true∧w.frozen? ⟨g,j,none⟩=false:=by
 rcases h.2 with ⟨h1,_⟩ | ⟨g',cap,cur,hv,hbg,hg,hnc,hcm,hcs,ht⟩
 ·cases h1
 ·have e1:g=g'∧c=cap:=by simp at hv;exact hv
  obtain ⟨rfl,rfl⟩:=e1
  have hC:Cells w g cur E:=hg
  exact ⟨by rw [hC.cell];simp;omega,hC.frozen j⟩
theorem OwnL.capped {E:TypeId} {size base:Nat} {w:World} {g c n:Nat} {xs:List Value} (h:OwnL E size base w (some ⟨g,0,none⟩) c n xs):n≤c∧c≤maxLen∧base≤g∧g < w.heap.size:=by
 rcases h.2 with ⟨h1,_⟩ | ⟨g',cap,cur,hv,hbg,hg,hnc,hcm,hcs,ht⟩
 ·cases h1
 ·have e1:g=g'∧c=cap:=by simp at hv;exact hv
  obtain ⟨rfl,rfl⟩:=e1
  exact ⟨hnc,hcm,hbg,(Array.getElem?_eq_some_iff.1 hg).1⟩
theorem OwnL.cut {E:TypeId} {size base:Nat} {w:World} {g c n:Nat} {xs:List Value} (h:OwnL E size base w (some ⟨g,0,none⟩) c n xs) {i:Nat} (hi:i≤n):OwnL E size base w (some ⟨g,0,none⟩) c i (xs.take (i * size)):=by
 have hle:i * size≤n * size:=Nat.mul_le_mul_right _ hi
 refine ⟨by rw [List.length_take,h.1];omega,?_⟩
 rcases h.2 with ⟨h1,_⟩ | ⟨g',cap,cur,hv,hbg,hg,hnc,hcm,hcs,ht⟩
 ·cases h1
 ·have e1:g=g'∧c=cap:=by simp at hv;exact hv
  obtain ⟨rfl,rfl⟩:=e1
  refine .inr ⟨g,c,cur,rfl,hbg,hg,by omega,hcm,hcs,?_⟩
  rw [← ht,List.take_take,Nat.min_eq_left hle]
theorem OwnL.srcDrop {E:TypeId} {size base:Nat} {w:World} {g c n:Nat} {xs:List Value} (h:OwnL E size base w (some ⟨g,0,none⟩) c n xs) (k:Nat):SrcAt w (some ⟨g,k,none⟩) (xs.drop k):=fun j u hu => by
 rw [List.getElem?_drop] at hu
 rcases h.2 with ⟨h1,_⟩ | ⟨g',cap,cur,hv,hbg,hg,hnc,hcm,hcs,ht⟩
 ·cases h1
 ·have e1:g=g':=by simp at hv;exact hv.1
  subst e1
  have hC:Cells w g cur E:=hg
  refine ⟨g,k,rfl,?_⟩
  rw [hC.cell,← Array.getElem?_toList]
  rw [← ht] at hu
  rw [List.getElem?_take] at hu
  split at hu
  ·exact hu
  ·cases hu
theorem zLA (g c m i base:Nat) (vs:List Value) (w:World) (h:OwnL 189 2 base w (some ⟨g,0,none⟩) c (m + 1) vs) (hi:i≤m) (h1:∀ u ∈ vs,u.oneCell'=true) (hk:m≤1000) :
  Calls Tryz.prog 328 #[.slice (some ⟨g,0,none⟩) (m + 1) c,.int .i64 (i:Int),.int .i64 ((i:Int) + 1)] w fun e w' => (e=.returned (.slice (some ⟨g,0,none⟩) m c)∧OwnL 189 2 base w' (some ⟨g,0,none⟩) c m (vs.take (i * 2) ++ vs.drop ((i + 1) * 2)))∧Below base w w':=by
 obtain ⟨hc1,hcm,hbg,hgw⟩:=h.capped
 have hlen:vs.length=(m + 1) * 2:=h.1
 have z1:¬ c=m:=by omega
 have z2:¬ c - m=0:=by omega
 have iw:IntKind.i64.wrap ((i:Int) + 1)=(i:Int) + 1:=IntWalk.i64_in _ (by omega)
 have i0:(0:Int)≤(i:Int) + 1:=by omega
 have i1:(i:Int) + 1≤((m:Int) + 1):=by omega
 have i2:((i:Int) + 1).toNat=i + 1:=by omega
 have i3:((i:Int) == (i:Int) + 1)=false:=by rw [beq_eq_false_iff_ne];omega
 have i4:¬ (i:Int)=(i:Int) + 1:=by omega
 have i5:i≤c:=by omega
 have i6:(i:Int)≤(i:Int) + 1:=by omega
 have i7:i≤m + 1:=by omega
 go_enter Tryz.func328,Tryz.ntmps328
 go_upto_region 5 with fail
 obtain ⟨A,hA,hsrc⟩:∃ A:Addr,(if c=i + 1 then some (⟨g,0,none⟩:Addr) else some ⟨g,(i + 1) * 2,none⟩)=some A∧Hid (∀ X,OwnL 189 2 base X (some ⟨g,0,none⟩) c (m + 1) vs→∀ j u,(vs.drop ((i + 1) * 2))[j]?=some u→X.cell? (A.add j)=some u):=by
  have hd:∀ (X:World) (off:Nat),SrcAt X (some ⟨g,off,none⟩) (vs.drop ((i + 1) * 2))→∀ j u,(vs.drop ((i + 1) * 2))[j]?=some u→X.cell? ((⟨g,off,none⟩:Addr).add j)=some u:=fun X off hs j u hu => by
   obtain ⟨b,o,e,hc⟩:=hs j u hu
   cases e
   rw [Addr.add_lit];exact hc
  by_cases hc:c=i + 1
  ·refine ⟨⟨g,0,none⟩,by rw [if_pos hc],Lib.hid fun X hO => hd X 0 ?_⟩
   intro j u hu
   rw [List.drop_of_length_le (by omega)] at hu
   simp at hu
  ·exact ⟨⟨g,(i + 1) * 2,none⟩,by rw [if_neg hc],Lib.hid fun X hO => hd X _ (hO.srcDrop _)⟩
 (refine zAC 6 (by kernel_rfl) (by kernel_rfl) ?_;simp only [zzA,zzB,zzC,zzD];(repeat (go_big_quiet_step ((fail))));refine wpQuiet_nil ?_;rintro _ ⟨ex,rfl⟩;have hex:=ex.below;have hexz:=ex.size;(try simp at hexz);(try (have hy0:w.heap.size < ex.to.heap.size:=by omega));(try (have hy1:w.heap.size + 1 < ex.to.heap.size:=by omega));(try (have hy2:w.heap.size + 2 < ex.to.heap.size:=by omega)))
 obtain ⟨X,hX⟩:∃ x:World,x=ex.to:=⟨_,rfl⟩
 rw [← hX] at hex ⊢
 clear hexz hX
 have hO:=h.kept hex
 have hsX:=hsrc.out X hO
 obtain ⟨i9,hi9,hz9,hs9,_⟩:=zEP.info
 refine wpList_append_own_spare X rfl (.tmp 22) (.tmp 25) 48 rfl base 189 i9 2 zEP.slice hi9 hs9 g i c (vs.take (i * 2)) rfl (hO.cut (by omega)) A (m - i) (c - (i + 1)) (vs.drop ((i + 1) * 2)) rfl (by rw [List.length_drop];omega) hsX (fun u hu => h1 u (List.mem_of_mem_drop hu)) (by omega) ?_
 intro Y oY gY
 have e1:i + (m - i)=m:=by omega
 rw [e1] at oY ⊢
 have bY:Below base X Y:=⟨gY.os,gY.tape,gY.output,gY.size,fun q hq => gY.block q (by have:=hex.size;omega) (by simp;omega)⟩
 have hOY:OwnL 189 2 base Y (some ⟨g,0,none⟩) c m (vs.take (i * 2) ++ vs.drop ((i + 1) * 2)):=oY
 have hz0:∀ w,(zeroValue 189).run Tryz.prog w=.ok (.agg #[.int .i64 0,.int .i64 0]) w:=fun w => by kernel_rfl
 have hcl:=fun ty => zEA (P:=Tryz.prog) Y 48 189 ty (.agg #[.int .i64 0,.int .i64 0]) zEP.slice hz0 [.int .i64 0,.int .i64 0] rfl (by intro u hu;simp at hu;rcases hu with rfl | rfl <;> rfl) g (m * 2) (c - m) (fun j hj => (hOY.room (by simp at hj;omega)).1) (fun j hj => (hOY.room (by simp at hj;omega)).2)
 have j1:((m:Int)≤(m:Int) + 1):=by omega
 have j2:m + 1≤c:=hc1
 have j3:m + 1 - m=1:=by omega
 have j4:((m:Int) + 1).toNat=m + 1:=by omega
 clear hA hsrc hsX
 go_wp2
 go_ret
 have hbs:base≤w.heap.size:=by omega
 exact ⟨⟨rfl,OwnL.setsAbove _ _ _ hOY (Nat.le_refl _)⟩,Below.sets hbg _ _ _ ((hex.mono hbs).trans bY)⟩
theorem zOB (a:Option Addr) (m c i:Nat) (vs:List Value) (w:World) (hs:SrcAt w a vs) (hl:vs.length=(m + 1) * 2) (hi:i≤m) (h1:∀ u ∈ vs,u.oneCell'=true) (hk:m≤1000) :
  Calls Tryz.prog 294 #[.slice a (m + 1) c,.int .i64 (i:Int)] w fun e w' => (∃ a' c',e=.returned (.slice a' m c')∧OwnL 189 2 w.heap.size w' a' c' m (vs.take (i * 2) ++ vs.drop ((i + 1) * 2)))∧Below w.heap.size w w':=by
 have hn:a=none→m + 1=0∧c=0:=fun e => by
  subst e
  obtain ⟨u,hu⟩:∃ u,vs[0]?=some u:=⟨_,List.getElem?_eq_getElem (by omega)⟩
  obtain ⟨b,o,e,_⟩:=hs 0 u hu
  cases e
 have iw:IntKind.i64.wrap ((i:Int) + 1)=(i:Int) + 1:=IntWalk.i64_in _ (by omega)
 go_enter Tryz.func294,Tryz.ntmps294
 go_wp2_with fail
 go_at_call 142
 refine (zGB a (m + 1) c vs w hs hl hn h1 (by omega)).mono ?_
 rintro e W1 ⟨⟨a2,c2,rfl,o2⟩,heb⟩
 obtain ⟨g,rfl⟩:∃ g,a2=some ⟨g,0,none⟩:=by
  rcases o2.form with ⟨_,_,h,_⟩ | ⟨g,h,_⟩
  ·omega
  ·exact ⟨g,h⟩
 go_wp2_with fail
 go_at_call 328
 refine (zLA g c2 m i w.heap.size vs W1 o2 hi h1 hk).mono ?_
 rintro e W2 ⟨⟨rfl,o3⟩,hb3⟩
 go_wp2
 go_ret
 exact ⟨⟨_,_,rfl,o3⟩,heb.trans hb3⟩
theorem zNA (g c m i base:Nat) (vs:List Value) (w:World) (h:OwnL 182 3 base w (some ⟨g,0,none⟩) c (m + 1) vs) (hi:i≤m) (h1:∀ u ∈ vs,u.oneCell'=true) (hk:m≤1000) :
  Calls Tryz.prog 330 #[.slice (some ⟨g,0,none⟩) (m + 1) c,.int .i64 (i:Int),.int .i64 ((i:Int) + 1)] w fun e w' => (e=.returned (.slice (some ⟨g,0,none⟩) m c)∧OwnL 182 3 base w' (some ⟨g,0,none⟩) c m (vs.take (i * 3) ++ vs.drop ((i + 1) * 3)))∧Below base w w':=by
 obtain ⟨hc1,hcm,hbg,hgw⟩:=h.capped
 have hlen:vs.length=(m + 1) * 3:=h.1
 have z1:¬ c=m:=by omega
 have z2:¬ c - m=0:=by omega
 have iw:IntKind.i64.wrap ((i:Int) + 1)=(i:Int) + 1:=IntWalk.i64_in _ (by omega)
 have i0:(0:Int)≤(i:Int) + 1:=by omega
 have i1:(i:Int) + 1≤((m:Int) + 1):=by omega
 have i2:((i:Int) + 1).toNat=i + 1:=by omega
 have i3:((i:Int) == (i:Int) + 1)=false:=by rw [beq_eq_false_iff_ne];omega
 have i4:¬ (i:Int)=(i:Int) + 1:=by omega
 have i5:i≤c:=by omega
 have i6:(i:Int)≤(i:Int) + 1:=by omega
 have i7:i≤m + 1:=by omega
 go_enter Tryz.func330,Tryz.ntmps330
 go_upto_region 5 with fail
 obtain ⟨A,hA,hsrc⟩:∃ A:Addr,(if c=i + 1 then some (⟨g,0,none⟩:Addr) else some ⟨g,(i + 1) * 3,none⟩)=some A∧Hid (∀ X,OwnL 182 3 base X (some ⟨g,0,none⟩) c (m + 1) vs→∀ j u,(vs.drop ((i + 1) * 3))[j]?=some u→X.cell? (A.add j)=some u):=by
  have hd:∀ (X:World) (off:Nat),SrcAt X (some ⟨g,off,none⟩) (vs.drop ((i + 1) * 3))→∀ j u,(vs.drop ((i + 1) * 3))[j]?=some u→X.cell? ((⟨g,off,none⟩:Addr).add j)=some u:=fun X off hs j u hu => by
   obtain ⟨b,o,e,hc⟩:=hs j u hu
   cases e
   rw [Addr.add_lit];exact hc
  by_cases hc:c=i + 1
  ·refine ⟨⟨g,0,none⟩,by rw [if_pos hc],Lib.hid fun X hO => hd X 0 ?_⟩
   intro j u hu
   rw [List.drop_of_length_le (by omega)] at hu
   simp at hu
  ·exact ⟨⟨g,(i + 1) * 3,none⟩,by rw [if_neg hc],Lib.hid fun X hO => hd X _ (hO.srcDrop _)⟩
 (refine zAC 6 (by kernel_rfl) (by kernel_rfl) ?_;simp only [zzA,zzB,zzC,zzD];(repeat (go_big_quiet_step ((fail))));refine wpQuiet_nil ?_;rintro _ ⟨ex,rfl⟩;have hex:=ex.below;have hexz:=ex.size;(try simp at hexz);(try (have hy0:w.heap.size < ex.to.heap.size:=by omega));(try (have hy1:w.heap.size + 1 < ex.to.heap.size:=by omega));(try (have hy2:w.heap.size + 2 < ex.to.heap.size:=by omega)))
 obtain ⟨X,hX⟩:∃ x:World,x=ex.to:=⟨_,rfl⟩
 rw [← hX] at hex ⊢
 clear hexz hX
 have hO:=h.kept hex
 have hsX:=hsrc.out X hO
 obtain ⟨i9,hi9,hz9,hs9,_⟩:=zFw.info
 refine wpList_append_own_spare X rfl (.tmp 22) (.tmp 25) 52 rfl base 182 i9 3 zFw.slice hi9 hs9 g i c (vs.take (i * 3)) rfl (hO.cut (by omega)) A (m - i) (c - (i + 1)) (vs.drop ((i + 1) * 3)) rfl (by rw [List.length_drop];omega) hsX (fun u hu => h1 u (List.mem_of_mem_drop hu)) (by omega) ?_
 intro Y oY gY
 have e1:i + (m - i)=m:=by omega
 rw [e1] at oY ⊢
 have bY:Below base X Y:=⟨gY.os,gY.tape,gY.output,gY.size,fun q hq => gY.block q (by have:=hex.size;omega) (by simp;omega)⟩
 have hOY:OwnL 182 3 base Y (some ⟨g,0,none⟩) c m (vs.take (i * 3) ++ vs.drop ((i + 1) * 3)):=oY
 have hz0:∀ w,(zeroValue 182).run Tryz.prog w=.ok (.agg #[.int .i64 0,.int .i64 0,.bool false]) w:=fun w => by kernel_rfl
 have hcl:=fun ty => zEA (P:=Tryz.prog) Y 52 182 ty (.agg #[.int .i64 0,.int .i64 0,.bool false]) zFw.slice hz0 [.int .i64 0,.int .i64 0,.bool false] rfl (by intro u hu;simp at hu;rcases hu with rfl | rfl <;> rfl) g (m * 3) (c - m) (fun j hj => (hOY.room (by simp at hj;omega)).1) (fun j hj => (hOY.room (by simp at hj;omega)).2)
 have j1:((m:Int)≤(m:Int) + 1):=by omega
 have j2:m + 1≤c:=hc1
 have j3:m + 1 - m=1:=by omega
 have j4:((m:Int) + 1).toNat=m + 1:=by omega
 clear hA hsrc hsX
 go_wp2
 go_ret
 have hbs:base≤w.heap.size:=by omega
 exact ⟨⟨rfl,OwnL.setsAbove _ _ _ hOY (Nat.le_refl _)⟩,Below.sets hbg _ _ _ ((hex.mono hbs).trans bY)⟩
theorem zPT (a:Option Addr) (m c i:Nat) (vs:List Value) (w:World) (hs:SrcAt w a vs) (hl:vs.length=(m + 1) * 3) (hi:i≤m) (h1:∀ u ∈ vs,u.oneCell'=true) (hk:m≤1000) :
  Calls Tryz.prog 302 #[.slice a (m + 1) c,.int .i64 (i:Int)] w fun e w' => (∃ a' c',e=.returned (.slice a' m c')∧OwnL 182 3 w.heap.size w' a' c' m (vs.take (i * 3) ++ vs.drop ((i + 1) * 3)))∧Below w.heap.size w w':=by
 have hn:a=none→m + 1=0∧c=0:=fun e => by
  subst e
  obtain ⟨u,hu⟩:∃ u,vs[0]?=some u:=⟨_,List.getElem?_eq_getElem (by omega)⟩
  obtain ⟨b,o,e,_⟩:=hs 0 u hu
  cases e
 have iw:IntKind.i64.wrap ((i:Int) + 1)=(i:Int) + 1:=IntWalk.i64_in _ (by omega)
 go_enter Tryz.func302,Tryz.ntmps302
 go_wp2_with fail
 go_at_call 133
 refine (zHQ a (m + 1) c vs w hs hl hn h1 (by omega)).mono ?_
 rintro e W1 ⟨⟨a2,c2,rfl,o2⟩,heb⟩
 obtain ⟨g,rfl⟩:∃ g,a2=some ⟨g,0,none⟩:=by
  rcases o2.form with ⟨_,_,h,_⟩ | ⟨g,h,_⟩
  ·omega
  ·exact ⟨g,h⟩
 go_wp2_with fail
 go_at_call 330
 refine (zNA g c2 m i w.heap.size vs W1 o2 hi h1 hk).mono ?_
 rintro e W2 ⟨⟨rfl,o3⟩,hb3⟩
 go_wp2
 go_ret
 exact ⟨⟨_,_,rfl,o3⟩,heb.trans hb3⟩
end Go.Proofs.YticjeianiahppaaGreatDoor
