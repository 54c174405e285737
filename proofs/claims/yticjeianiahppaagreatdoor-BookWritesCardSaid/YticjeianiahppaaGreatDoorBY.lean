/- The session book: contracts of the program and of the laws' helpers, joined (Ne). -/
import Derived.Test.YticjeianiahppaaGreatDoorBX
import Derived.Test.YticjeianiahppaaGreatDoorBV
set_option linter.unusedVariables false
set_option linter.unusedSimpArgs false
set_option linter.unnecessarySimpa false
set_option maxRecDepth 100000
set_option maxHeartbeats 40000000
namespace Go.Proofs.YticjeianiahppaaGreatDoor
open Go.RowKit Go.Flow
theorem zIC:(Tryz.prog.info? 5).map (fun i => (i.zero,i.size,i.bytes))=some (some (.int .u8 0),1,1):=by kernel_rfl
theorem zQN:Elem Tryz.prog 128 5 (.int .u8 0) 1 1:=⟨Tryz.underlying128,info_parts zIC,rfl,by decide⟩
def repB (x:Int) (m n:Nat):List Value:=List.replicate m (.int .u8 x) ++ List.replicate (n - m) (.int .u8 0)
theorem zJa (x:Int) {m n:Nat} (h:m≤n):(repB x m n).length=n:=by simp [repB];omega
theorem zKa (n:Nat):madeCells (Value.int .u8 0).cells n=(repB 0 0 n).toArray:=by
 apply Array.ext
 ·simp [size_madeCells,repB]
 ·intro i h1 h2
  simp [madeCells,repB,Value.cells,Nat.mod_one]
theorem zK9 (n:Nat) (hn:n≤1000) (W:World):Sem.run Tryz.prog (Instr.makeSlice 128 (.int .i64 (n:Int)) (.int .i64 (n:Int))) W=.ok (.slice (some ⟨W.heap.size,0,none⟩) n n) (W.alloc (.cells (repB 0 0 n).toArray 5)):=by
 obtain ⟨i,hi,h0,h1,h2⟩:=info_parts zIC
 have:=run_make (P:=Tryz.prog) W 128 5 i (.int .u8 0) Tryz.underlying128 hi h0 .i64 .i64 (n:Int) (n:Int) (by omega) (Int.le_refl _) (by rw [h2];omega) (by omega)
 rw [h1] at this
 simpa [zKa] using this
theorem zFc (x:Int) {m k n:Nat} (h:m + k≤n):splice (repB x m n) m (List.replicate k (.int .u8 x))=repB x (m + k) n:=by
 unfold splice repB
 rw [List.take_append_of_le_length (by simp),List.take_of_length_le (by simp),List.length_replicate,List.drop_append,List.drop_of_length_le (by simp)]
 simp only [List.length_replicate,List.nil_append,List.drop_replicate]
 rw [← List.append_assoc,List.replicate_append_replicate]
 congr 2
 omega
theorem zIh (b off:Nat) (x:Int) (c:Nat) (n:Nat) (w:World) (hc:w.cell? ⟨b,off,none⟩=some (.int .u8 x)) (hn1:1≤n) (hn:n≤1000) :
  Calls Tryz.prog 233 #[.slice (some ⟨b,off,none⟩) 1 c,.int .i64 (n:Int)] w fun e w' => (∃ g,e=.returned (.slice (some ⟨g,0,none⟩) n n)∧w.heap.size≤g∧Cells w' g (List.replicate n (.int .u8 x)).toArray 5)∧Below w.heap.size w w':=by
 have hb:=zBl hc
 have hcu:IntKind.u64.wrap (n:Int)=(n:Int):=by rw [IntKind.wrap_u64];omega
 have hci:IntKind.i64.wrap (n:Int)=(n:Int):=IntWalk.i64_in _ (by omega)
 have h9:¬ ((9223372036854775807:Int) < (n:Int)):=by omega
 have h0:¬ ((n:Int) < 0):=by omega
 have mk:=zK9 n hn w
 have t1:Below w.heap.size w (w.alloc (.cells (repB 0 0 n).toArray 5)):=by exact zzL
 have C1:Cells (w.alloc (.cells (repB 0 0 n).toArray 5)) w.heap.size (repB 0 0 n).toArray 5:=Cells.new _ _ _
 have hc1:=zAA t1 hc
 have cp:=run_copy_row (P:=Tryz.prog) _ 128 128 3 5 w.heap.size 0 n n ⟨b,off,none⟩ 1 c (repB 0 0 n).toArray 5 [.int .u8 x] Tryz.underlying128 (by kernel_rfl) C1 (Nat.min_eq_left hn1).symm (fun j v hv => by
  have hj:j=0:=by
   have:=(List.getElem?_eq_some_iff.1 hv).1
   simp at this;omega
  subst hj
  simp at hv
  subst hv
  rw [addr_add];exact hc1) (by simp [zJa];omega) (fun v hv => by simp at hv;subst hv;rfl)
 obtain ⟨W2,hW2⟩:∃ z:World,z=(w.alloc (.cells (repB 0 0 n).toArray 5)).setRow w.heap.size ((repB 0 0 n).toArray.toList.take 0 ++ [Value.int .u8 x] ++ (repB 0 0 n).toArray.toList.drop (0 + [Value.int .u8 x].length)).toArray:=⟨_,rfl⟩
 have hrep:(repB 0 0 n).toArray.toList.take 0 ++ [Value.int .u8 x] ++ (repB 0 0 n).toArray.toList.drop (0 + [Value.int .u8 x].length)=repB x 1 n:=by
  have:=zFc x (m:=0) (k:=1) (n:=n) (by omega)
  simpa [splice,repB] using this
 have t2:Below w.heap.size w W2:=by rw [hW2];exact below_setRow t1 (Nat.le_refl _) _
 have C2:Cells W2 w.heap.size (repB x 1 n).toArray 5:=by rw [hW2,hrep];exact setRow_heap _ _ _ _ _ _ C1
 rw [← hW2] at cp
 clear hW2 hrep C1 hc1
 go_enter Tryz.func233,Tryz.ntmps233
 go_wp2_with (go_at_call 285;refine (Pay.zPL n hn _).mono ?_;rintro e w1 ⟨rfl,rfl⟩)
 clear mk cp t1 hc hb hcu hci
 go_loopw [8] (fun v wr => ∃ m:Nat,1≤m∧m≤n∧v=.int .i64 m∧Cells wr w.heap.size (repB x m n).toArray 5∧Below w.heap.size w wr) (fun v _ => n - (intOf v).toNat)
 case atStart => exact ⟨1,Nat.le_refl _,hn1,rfl,C2,t2⟩
 case round =>
  obtain ⟨m,hm1,hm,rfl,C,hb⟩:=hrel
  by_cases hlt:m < n
  ·have hmI:(m:Int) < (n:Int):=by omega
   obtain ⟨k,hk⟩:∃ k,Nat.min m (n - m)=k:=⟨_,rfl⟩
   have hk1:k≤n - m∧k≤m∧1≤k:=by
    rw [← hk]
    refine ⟨Nat.min_le_right _ _,Nat.min_le_left _ _,?_⟩
    exact Nat.le_min.2 ⟨hm1,by omega⟩
   have hsl:=zFc x (m:=m) (k:=k) (n:=n) (by omega)
   have hs1:∀ (j:Nat) (v:Value),(List.replicate k (Value.int .u8 x))[j]?=some v→wr.cell? ((⟨w.heap.size,0,none⟩:Addr).add j)=some v:=fun j v hv => by
    have hj:j < k:=by have:=(List.getElem?_eq_some_iff.1 hv).1;simpa using this
    simp [hj] at hv
    subst hv
    rw [addr_add,Nat.zero_add,C.cell]
    have hjm:j < m:=by omega
    simp [repB,List.getElem?_append,hjm]
   have hwa:IntKind.i64.wrap ((m:Int) + (k:Int))=((m + k:Nat):Int):=by rw [IntWalk.i64_in _ (by omega)];omega
   have hkl:(List.replicate k (Value.int .u8 x)).length=Nat.min m (n - m):=by rw [hk];simp
   have hft:m + (List.replicate k (Value.int .u8 x)).length≤(repB x m n).length:=by rw [zJa x hm];simp;omega
   have h1c:∀ v ∈ List.replicate k (Value.int .u8 x),v.oneCell'=true:=fun v hv => by rw [List.eq_of_mem_replicate hv];rfl
   go_wp2
   go_region_law (refine step_copy_splice rfl (.tmp 41) (.tmp 44) 128 128 rfl 5 Tryz.underlying128 (by kernel_rfl) (some ⟨w.heap.size,m,none⟩) (some ⟨w.heap.size,0,none⟩) (n - m) (n - m) m n (by simp [Act.eval,Act.put];omega) (by simp [Act.eval,Act.put]) w.heap.size m (repB x m n) 5 C (List.replicate k (Value.int .u8 x)) hkl (fun _ => ⟨rfl,_,rfl,hs1⟩) hft h1c w.heap.size w (by repeat (first | exact hb | refine Below.drew ?_)) (Nat.le_refl _) ?_;intro w4 hg4 hb4)
   all_goals (rw [hsl] at hg4)
   all_goals go_wp2
   all_goals go_roundw
   case rel => exact ⟨m + k,by omega,by omega,by omega,hg4⟩
   case measure => simp [intOf];omega
  ·obtain rfl:m=n:=by omega
   have e:repB x m m=List.replicate m (.int .u8 x):=by simp [repB]
   rw [e] at C
   go_wp2
   go_ret
   exact ⟨⟨w.heap.size,rfl,Nat.le_refl _,C⟩,hb⟩
theorem zNu {w:World} {b:Nat} {v0 v1:Value} {T:TypeId} (h:Cells w b #[v0,v1] T):(loadVar 332 ⟨b,0,none⟩).run Tryz.prog w=.ok (.agg #[v0,v1]) w:=by
 have hi:=Tryz.isAgg332
 have hz:=Tryz.sizeOf332
 have k0:=h.cell 0
 have k1:=h.cell 1
 simp at k0 k1
 unfold loadVar
 go_simp
theorem zMW {w:World} {b:Nat} {v0 v1:Value} {T:TypeId} (h:Cells w b #[v0,v1] T):(loadVar 296 ⟨b,0,none⟩).run Tryz.prog w=.ok (.agg #[v0,v1]) w:=by
 have hi:=Tryz.isAgg296
 have hz:=Tryz.sizeOf296
 have k0:=h.cell 0
 have k1:=h.cell 1
 simp at k0 k1
 unfold loadVar
 go_simp
theorem zGR (w:World):Calls Tryz.prog 232 #[] w fun e w' => e=.returned (.agg #[.int .i64 2,.int .i64 5])∧Below w.heap.size w w':=by
 go_enter Tryz.func232,Tryz.ntmps232
 go_wp2
 exact bodyPost_ret (zBR rfl rfl (zNu (Cells.new' _ _ _ _ (by simp)))) rfl ⟨rfl,(Below.refl _ _).alloc (Nat.le_refl _) _⟩
theorem zGo (w:World):Calls Tryz.prog 179 #[] w fun e w' => e=.returned (.int .i64 9)∧Below w.heap.size w w':=by
 have i0:∀ W:World,(Instr.index 332 (.agg #[.int .i64 2,.int .i64 5]) (.int .i64 0)).run Tryz.prog W=.ok (.int .i64 2) W:=fun W => by kernel_rfl
 have i1:∀ W:World,(Instr.index 332 (.agg #[.int .i64 2,.int .i64 5]) (.int .i64 1)).run Tryz.prog W=.ok (.int .i64 5) W:=fun W => by kernel_rfl
 go_enter Tryz.func179,Tryz.ntmps179
 go_wp2_with fail
 go_at_call 232
 refine (zGR w).mono ?_
 rintro e w1 ⟨rfl,hb⟩
 go_wp2_with fail
 go_loopw [1,3,5] (fun n _ i X => ((n=.int .i64 0∧i=.int .i64 0)∨(n=.int .i64 3∧i=.int .i64 1)∨(n=.int .i64 9∧i=.int .i64 2))∧X=w1) (fun _ _ i _ => 2 - (intOf i).toNat)
 case atStart => exact ⟨.inl ⟨rfl,rfl⟩,rfl⟩
 case round =>
  obtain ⟨⟨rfl,rfl⟩ | ⟨rfl,rfl⟩ | ⟨rfl,rfl⟩,rfl⟩:=hrel
  ·go_wp2
   go_round
   case rel => exact ⟨.inr (.inl ⟨rfl,rfl⟩),trivial⟩
   case measure => simp [intOf]
  ·go_wp2
   go_round
   case rel => exact ⟨.inr (.inr ⟨rfl,rfl⟩),trivial⟩
   case measure => simp [intOf]
  ·go_wp2
   go_ret
   exact ⟨rfl,hb⟩
def preW (s:List UInt8) (i k:Nat):Nat:=23 * (i + 1) + sumW (s.take k) 0
theorem zL6 (l:List UInt8) (b:UInt8) (j:Nat):sumW (l ++ [b]) j=sumW l j + (j + l.length + 1) * b.toNat:=by
 induction l generalizing j with
 | nil => simp [sumW]
 | cons x l ih =>
  simp only [List.cons_append,sumW,ih,List.length_cons]
  rw [show j + 1 + l.length + 1=j + (l.length + 1) + 1 by omega];omega
theorem zPC (l:List UInt8) (j:Nat):sumW l j≤l.length * ((j + l.length) * 255):=by
 induction l generalizing j with
 | nil => simp [sumW]
 | cons x l ih =>
  have h1:=ih (j + 1)
  have h2:(j + 1) * x.toNat≤(j + (l.length + 1)) * 255:=Nat.mul_le_mul (by omega) (by have:=x.toNat_lt;omega)
  simp only [sumW,List.length_cons]
  have e:j + 1 + l.length=j + (l.length + 1):=by omega
  rw [e] at h1
  rw [Nat.succ_mul l.length]
  omega
theorem zLo {s:List UInt8} {i k:Nat} (h:k < s.length):preW s i (k + 1)=preW s i k + (k + 1) * (s[k]).toNat:=by
 unfold preW
 rw [List.take_succ_eq_append_getElem h,zL6,List.length_take,Nat.min_eq_left (by omega),Nat.zero_add];omega
theorem zPI {s:List UInt8} {i k:Nat} (hs:s.length≤1000) (hi:i≤1000) (hk:k≤s.length):preW s i k≤300000000:=by
 unfold preW
 have:=zPC (s.take k) 0
 have hl:(s.take k).length≤1000:=by rw [List.length_take];omega
 have h2:(s.take k).length * ((0 + (s.take k).length) * 255)≤1000 * (1000 * 255):=Nat.mul_le_mul hl (Nat.mul_le_mul (by omega) (Nat.le_refl _))
 omega
theorem zKr (s:ByteArray) (i:Nat) (w:World) (hs:s.size≤1000) (hi:i≤1000) :
  Calls Tryz.prog 182 #[.string s,.int .i64 (i:Int)] w fun e w' => e=.returned (.agg #[.int .i64 (s.size:Int),.int .i64 (chkL s.data.toList i:Int)])∧Below w.heap.size w w':=by
 have hsz:s.data.toList.length=s.size:=Array.length_toList
 have iw1:IntKind.i64.wrap ((i:Int) + 1)=(i:Int) + 1:=IntWalk.i64_in _ (by omega)
 have iw2:IntKind.i64.wrap (23 * ((i:Int) + 1))=23 * ((i:Int) + 1):=IntWalk.i64_in _ (by omega)
 go_enter Tryz.func182,Tryz.ntmps182
 go_wp2
 go_loopw [5,6,12] (fun n _ ix X => ∃ k:Nat,k≤s.size∧ix=.int .i64 k∧n=.int .i64 (preW s.data.toList i k:Int)∧Below w.heap.size w X∧Cells X w.heap.size #[.int .i64 0,.int .i64 0] 296) (fun _ _ ix _ => s.size - (intOf ix).toNat)
 case atStart => exact ⟨0,Nat.zero_le _,rfl,by simp [preW,sumW],Joins.below_alloc1 _ _,Cells.new _ _ _⟩
 case round =>
  obtain ⟨k,hk,rfl,rfl,hb,C⟩:=hrel
  have pl:=zPI (s:=s.data.toList) (i:=i) (k:=k) (by omega) hi (by omega)
  obtain ⟨n,hn⟩:∃ n,preW s.data.toList i k=n:=⟨_,rfl⟩
  rw [hn] at pl ⊢
  have Hn:=Lib.hid hn
  clear hn
  by_cases hlt:k < s.size
  ·have hkI:(k:Int) < (s.size:Int):=by omega
   have hk0:(0:Int)≤(k:Int):=by omega
   have hkL:k < s.data.toList.length:=by omega
   have hb8:(s.data.toList[k]).toNat < 256:=(s.data.toList[k]).toNat_lt
   have hix:∀ W:World,(Instr.index 9 (.string s) (.int .i64 (k:Int))).run Tryz.prog W=.ok (.int .u8 ((s.data.toList[k]).toNat:Int)) W:=fun W => by
    rw [run_index_string W 9 s .i64 (k:Int) Tryz.underlying9,dif_pos ⟨hk0,hkI⟩]
    rfl
   have hp:=zLo (i:=i) hkL
   rw [Hn.out] at hp
   generalize (s.data.toList[k]).toNat=x at hb8 hix hp
   have Hp:=Lib.hid hp
   clear hp
   have iwk:IntKind.i64.wrap ((k:Int) + 1)=(k:Int) + 1:=IntWalk.i64_in _ (by omega)
   have hm0:0≤((k:Int) + 1) * (x:Int):=Int.mul_nonneg (by omega) (by omega)
   have hm1:((k:Int) + 1) * (x:Int)≤1001 * 256:=by
    have h1:((k:Int) + 1) * (x:Int)≤1001 * (x:Int):=Int.mul_le_mul_of_nonneg_right (by omega) (by omega)
    omega
   have iwm:IntKind.i64.wrap (((k:Int) + 1) * (x:Int))=((k:Int) + 1) * (x:Int):=IntWalk.i64_in _ (by omega)
   have iws:IntKind.i64.wrap ((n:Int) + ((k:Int) + 1) * (x:Int))=(n:Int) + ((k:Int) + 1) * (x:Int):=IntWalk.i64_in _ (by omega)
   have iwx:IntKind.i64.wrap (x:Int)=(x:Int):=IntWalk.i64_in _ (by omega)
   go_wp2
   go_round
   case rel => exact ⟨k + 1,by omega,by go_num,by rw [Hp.out];rfl,hb,C⟩
   case measure => simp [intOf];omega
  ·obtain rfl:k=s.size:=by omega
   have e:chkL s.data.toList i=n % 99989:=by
    unfold chkL
    rw [← Hn.out];unfold preW
    rw [List.take_of_length_le (by omega)]
   have f0:=C.frozen 0
   have f1:=C.frozen 1
   have c0:=C.cell 0
   have c1:=C.cell 1
   simp at c0 c1
   have lC:=C.lt
   go_wp2
   refine bodyPost_ret (zBR rfl rfl (zMW ((C.set 0 _).set 1 _))) rfl ⟨by rw [e];rfl,?_⟩
   exact (hb.setCell (Nat.le_refl _) _).setCell (Nat.le_refl _) _
end Go.Proofs.YticjeianiahppaaGreatDoor
