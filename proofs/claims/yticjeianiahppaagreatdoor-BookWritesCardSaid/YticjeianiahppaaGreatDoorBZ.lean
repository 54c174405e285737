/- The session book: contracts of the program and of the laws' helpers, joined (Nf, Ng, Nh, Ni). -/
import Derived.Test.YticjeianiahppaaGreatDoorBY
import Derived.Lib.BufferWrite
import Derived.Shelf.Strings.BuilderK
set_option linter.unusedVariables false
set_option linter.unusedSimpArgs false
set_option linter.unnecessarySimpa false
set_option maxRecDepth 100000
set_option maxHeartbeats 40000000
namespace Go.Proofs.YticjeianiahppaaGreatDoor
open Go.RowKit Go.Flow
def zBL (l:List UInt8):Array Value:=(l.map fun b => Value.int .u8 (b.toNat:Int)).toArray
theorem zCV (l:List UInt8):(zBL l).size=l.length:=by simp [zBL]
theorem zGj (l:List UInt8) (k:Nat):(zBL l)[k]?=(l[k]?).map fun b => Value.int .u8 (b.toNat:Int):=by simp [zBL]
theorem zGi (l:List UInt8) (k:Nat) (b:UInt8):(zBL l).setIfInBounds k (.int .u8 (b.toNat:Int))=zBL (l.set k b):=by
 apply Array.ext_getElem?
 intro i
 rw [zGj]
 by_cases e:i=k
 ·subst e
  by_cases h:i < l.length
  ·rw [Array.getElem?_setIfInBounds_self_of_lt (by rw [zCV];exact h),List.getElem?_set_self h];rfl
  ·rw [Array.getElem?_eq_none (by simp [zCV];omega),List.getElem?_eq_none (by simp;omega)];rfl
 ·rw [Array.getElem?_setIfInBounds_ne (Ne.symm e),List.getElem?_set_ne (Ne.symm e),zGj]
theorem zKG (n k:Nat):zCH n (k + 1)=UInt8.ofNat (48 + n / 10 ^ k % 10) :: zCH n k:=by
 induction k generalizing n with
 | zero => simp [zCH]
 | succ k ih =>
  rw [show zCH n (k + 1 + 1)=zCH (n / 10) (k + 1) ++ [UInt8.ofNat (48 + n % 10)] from rfl,ih,Nat.div_div_eq_div_mul,Nat.pow_succ,Nat.mul_comm 10]
  rfl
theorem zPK {d:Nat} (h:d < 10):((UInt8.ofNat (48 + d)).toNat:Int)=48 + (d:Int):=by
 rw [UInt8.toNat_ofNat'];omega
def zDb (l:List UInt8) (o n k:Nat):List UInt8:=l.take o ++ zCH n k ++ l.drop (o + k)
def zEx (l:List UInt8) (o n k j:Nat):List UInt8:=l.take (o + (k - j)) ++ (zCH n j ++ l.drop (o + k))
theorem zLx {l:List UInt8} {o n k j:Nat} (h:o + k≤l.length) (hj:j≤k):(zEx l o n k j).length=l.length:=by
 simp [zEx,zCC];omega
theorem zKZ {l:List UInt8} {o n k j:Nat} (h:o + k≤l.length) (hj:j < k):(zEx l o n k j).set (o + (k - j - 1)) (UInt8.ofNat (48 + n / 10 ^ j % 10))=zEx l o n k (j + 1):=by
 unfold zEx
 have e1:o + (k - j)=o + (k - (j + 1)) + 1:=by omega
 have e2:o + (k - j - 1)=o + (k - (j + 1)):=by omega
 rw [e1,e2,List.take_succ_eq_append_getElem (by omega),zKG]
 have hl:(l.take (o + (k - (j + 1)))).length=o + (k - (j + 1)):=by rw [List.length_take];omega
 rw [List.append_assoc,List.set_append_right _ _ (by omega),hl,Nat.sub_self]
 simp
theorem zLy (l:List UInt8) (o n k:Nat):zEx l o n k k=zDb l o n k:=by simp [zEx,zDb]
theorem zK0 (l:List UInt8) (o n k:Nat):zEx l o n k 0=l:=by simp [zEx,zCH]
theorem zIK (g o k c n:Nat) (l:List UInt8) (w:World) (C:Cells w g (zBL l) 5) (hf:o + k≤l.length) (hk:k≤100) (hn:n≤1000000000) :
  Calls Tryz.prog 234 #[.slice (some ⟨g,o,none⟩) k c,.int .i64 (n:Int)] w fun e w' => e=.returned (.tuple #[])∧Cells w' g (zBL (zDb l o n k)) 5∧KeepG g w w':=by
 have iwk:IntKind.i64.wrap ((k:Int) - 1)=(k:Int) - 1:=IntWalk.i64_in _ (by omega)
 go_enter Tryz.func234,Tryz.ntmps234
 go_wp2
 go_loopw [1,4] (fun m i X => ∃ j:Nat,j≤k∧i=.int .i64 ((k:Int) - j - 1)∧m=.int .i64 (n / 10 ^ j:Nat)∧Cells X g (zBL (zEx l o n k j)) 5∧KeepG g w X) (fun _ i _ => (intOf i + 1).toNat)
 case atStart => exact ⟨0,Nat.zero_le _,by simp,by simp,by rw [zK0];exact C,KeepG.refl C.lt⟩
 case round =>
  obtain ⟨j,hj,rfl,rfl,CX,kX⟩:=hrel
  obtain ⟨m,hm⟩:∃ m,n / 10 ^ j=m:=⟨_,rfl⟩
  have hm1:m≤1000000000:=by rw [← hm];exact Nat.le_trans (Nat.div_le_self _ _) hn
  rw [hm]
  by_cases hlt:j < k
  ·have h0:(0:Int)≤(k:Int) - j - 1:=by omega
   have h1:(k:Int) - j - 1 < (k:Int):=by omega
   have iw1:IntKind.i64.wrap ((k:Int) - j - 1 - 1)=(k:Int) - (j + 1:Nat) - 1:=by rw [IntWalk.i64_in _ (by omega)];omega
   have et:((k:Int) - j - 1).toNat=k - j - 1:=by omega
   have hst:=zKZ (n:=n) hf hlt
   rw [hm] at hst
   have hln:=zLx (n:=n) hf hj
   have hz:(zBL (zEx l o n k j)).size=l.length:=by rw [zCV,hln]
   obtain ⟨u,hu⟩:∃ u,(zBL (zEx l o n k j))[o + (k - j - 1)]?=some u:=⟨_,Array.getElem?_eq_getElem (by omega)⟩
   have cu:=CX.cell (o + (k - j - 1))
   rw [hu] at cu
   have fu:=CX.frozen (o + (k - j - 1))
   have hw8:IntKind.u8.wrap (48 + ((m % 10:Nat):Int))=48 + ((m % 10:Nat):Int):=by rw [IntKind.wrap_u8];omega
   have iwd:IntKind.i64.wrap (48 + ((m % 10:Nat):Int))=48 + ((m % 10:Nat):Int):=IntWalk.i64_in _ (by omega)
   have lg:=CX.lt
   go_wp2
   have hv:(48 + (m:Int) % 10)=((UInt8.ofNat (48 + m % 10)).toNat:Int):=by rw [zPK (Nat.mod_lt _ (by omega))];omega
   refine ⟨⟨j + 1,by omega,congrArg _ (by omega),congrArg _ (by rw [Nat.pow_succ,← Nat.div_div_eq_div_mul,hm];omega),?_,kX.set _ _⟩,by simp [intOf];omega⟩
   have:=CX.set (o + (k - j - 1)) (.int .u8 (48 + (m:Int) % 10))
   rw [hv] at this ⊢
   rw [zGi,hst] at this
   exact this
  ·obtain rfl:j=k:=by omega
   have hneg:¬ (0≤(j:Int) - j - 1):=by omega
   rw [zLy] at CX
   go_wp2
   exact bodyPost_end (results_none rfl _ _ _) rfl ⟨rfl,CX,kX⟩
theorem zLi (s:List UInt8) (i:Nat):((zDb (zDb (List.replicate (s.length + 10) 45) 0 s.length 2) 3 (chkL s i) 5).take 9 ++ s ++ (zDb (zDb (List.replicate (s.length + 10) 45) 0 s.length 2) 3 (chkL s i) 5).drop (9 + s.length)).set (s.length + 9) 10=recL s i:=by
 have e1:zDb (List.replicate (s.length + 10) 45) 0 s.length 2=zCH s.length 2 ++ List.replicate (s.length + 8) 45:=by
  unfold zDb
  rw [zzB,List.nil_append,List.drop_replicate,show s.length + 10 - (0 + 2)=s.length + 8 by omega]
 have e2:zDb (zCH s.length 2 ++ List.replicate (s.length + 8) 45) 3 (chkL s i) 5=(zCH s.length 2 ++ [45]) ++ (zCH (chkL s i) 5 ++ List.replicate (s.length + 2) 45):=by
  unfold zDb
  rw [List.take_append,zCC,List.take_of_length_le (by rw [zCC];omega),List.drop_append,zCC,List.drop_of_length_le (by rw [zCC];omega),List.take_replicate,List.drop_replicate,show min (3 - 2) (s.length + 8)=1 by omega,show s.length + 8 - (3 + 5 - 2)=s.length + 2 by omega]
  simp
 rw [e1,e2]
 have e3:(zCH s.length 2 ++ [45]) ++ (zCH (chkL s i) 5 ++ List.replicate (s.length + 2) 45)=(zCH s.length 2 ++ 45 :: (zCH (chkL s i) 5 ++ [45])) ++ List.replicate (s.length + 1) 45:=by
  rw [show s.length + 2=1 + (s.length + 1) by omega,← List.replicate_append_replicate]
  simp
 have hl:(zCH s.length 2 ++ 45 :: (zCH (chkL s i) 5 ++ [45])).length=9:=by simp [zCC]
 rw [e3,List.take_left' hl,List.drop_append,List.drop_of_length_le (by omega),hl,List.drop_replicate,show s.length + 1 - (9 + s.length - 9)=1 by omega,List.nil_append]
 rw [List.set_append_right _ _ (by rw [List.length_append,hl];omega),List.length_append,hl,show s.length + 9 - (9 + s.length)=0 by omega]
 unfold recL
 simp
theorem zKS (n:Nat):(List.replicate n (Value.int .u8 45)).toArray=zBL (List.replicate n 45):=by
 unfold zBL
 rw [List.map_replicate];rfl
theorem zKU (s:ByteArray) (i:Nat) (w:World) (hs:s.size≤900) (hi:i≤1000) :
  Calls Tryz.prog 177 #[.string s,.int .i64 (i:Int)] w fun e w' => (∃ g,e=.returned (.slice (some ⟨g,0,none⟩) (s.size + 10) (s.size + 10))∧w.heap.size≤g∧Cells w' g (zBL (recL s.data.toList i)) 5)∧Below w.heap.size w w':=by
 have hsz:s.data.toList.length=s.size:=Array.length_toList
 obtain ⟨c,hc⟩:∃ c,chkL s.data.toList i=c:=⟨_,rfl⟩
 have hc1:c≤100000:=by rw [← hc];have:=zQO s.data.toList i;omega
 have hd:=zKr s i w (by omega) hi
 rw [hc] at hd
 have Hc:=Lib.hid hc
 clear hc
 have iw1:IntKind.i64.wrap (9 + (s.size:Int))=9 + (s.size:Int):=IntWalk.i64_in _ (by omega)
 have iw2:IntKind.i64.wrap (9 + (s.size:Int) + 1)=((s.size + 10:Nat):Int):=by rw [IntWalk.i64_in _ (by omega)];omega
 go_enter Tryz.func177,Tryz.ntmps177
 go_wp2_with fail
 go_at_call 182
 refine hd.mono ?_
 rintro e W1 ⟨rfl,b1⟩
 go_upto_region 2 with fail
 obtain ⟨V1,hV⟩:∃ x:World,x=W1.alloc (.cells #[.int .i64 (s.size:Int),.int .i64 (c:Int)] 296):=⟨_,rfl⟩
 have t1:Below w.heap.size w V1:=by rw [hV];exact b1.alloc b1.size _
 have CH:Cells V1 W1.heap.size #[.int .i64 (s.size:Int),.int .i64 (c:Int)] 296:=by rw [hV];exact Cells.new _ _ _
 rw [← hV]
 clear hV
 go_wp2_with fail
 go_at_call 232
 refine (zGR _).mono ?_
 rintro e W2 ⟨rfl,b2⟩
 have CH2:=CH.below b2
 have t2:=t1.trans (b2.mono t1.size)
 go_upto_region 3 with fail
 obtain ⟨V2,hV⟩:∃ x:World,x=W2.alloc (.cells #[.int .i64 2,.int .i64 5] 332):=⟨_,rfl⟩
 have t3:Below w.heap.size w V2:=by rw [hV];exact t2.alloc t2.size _
 have CW:Cells V2 W2.heap.size #[.int .i64 2,.int .i64 5] 332:=by rw [hV];exact Cells.new _ _ _
 have CH3:Cells V2 W1.heap.size #[.int .i64 (s.size:Int),.int .i64 (c:Int)] 296:=by rw [hV];exact CH2.alloc _
 rw [← hV]
 clear hV CH CH2 b2 t2 t1 hd
 have hW1:w.heap.size≤W1.heap.size:=b1.size
 go_wp2_with fail
 go_at_call 179
 refine (zGo _).mono ?_
 rintro e W3 ⟨rfl,b3⟩
 have c45:W3.cell? ⟨V2.heap.size,0,none⟩=some (.int .u8 45):=by
  have:=((Cells.new V2 #[Value.int .u8 45] 5).below b3).cell 0
  simpa using this
 have b3' : Below V2.heap.size V2 W3:=((Below.refl _ _).alloc (Nat.le_refl _) _).trans (b3.mono (by simp))
 go_wp2_with fail
 go_at_call 233
 refine (zIh V2.heap.size 0 45 1 (s.size + 10) W3 c45 (by omega) (by omega)).mono ?_
 rintro e W4 ⟨⟨g,rfl,hg,CG⟩,b4⟩
 rw [zKS] at CG
 have t4:Below w.heap.size w W4:=t3.trans ((b3'.trans (b4.mono b3'.size)).mono t3.size)
 have b44:Below V2.heap.size V2 W4:=b3'.trans (b4.mono b3'.size)
 have CW4:=CW.below b44
 have CH4:=CH3.below b44
 have hgw:W2.heap.size < g:=by have:=CW.lt;have:=b3'.size;omega
 have hgh:W1.heap.size < g:=by have:=CH3.lt;have:=b3'.size;omega
 have g0:w.heap.size≤g:=by omega
 clear c45 b3 b3' b4 b44 CW CH3 t3 hg
 have w0:=CW4.cell 0
 have h0:=CH4.cell 0
 simp at w0 h0
 have lw:=CW4.lt
 have lh:=CH4.lt
 have hs2:(2:Int)≤(s.size:Int) + 10:=by omega
 have hs8:(8:Int)≤(s.size:Int) + 10:=by omega
 have hs9:(9:Int)≤(s.size:Int) + 10:=by omega
 have w8:IntKind.i64.wrap 8=8:=rfl
 have w3:IntKind.i64.wrap 3=3:=rfl
 have n3:¬ (s.size + 10=3):=by omega
 have n9:¬ (s.size + 10=9):=by omega
 go_upto_region 4 with fail
 (refine zAD 6 [] [6] 47 [true,true,true,true,true,true] [] (by kernel_rfl) (by kernel_rfl) rfl zAR ?_;simp only [zAU,List.filterMap_cons,List.filterMap_nil,zzH,zzI,zzJ];(repeat (refine zAM _ rfl (fun w => (by go_simp;rfl)) ?_));refine zAS ?_;simp only [zAF,zAt,Act.put,zzG,zzE,zzF,zzA,zzB,zzC,zzD];(repeat (refine zAL (fun K hK => ?_);go_simp;first | (refine hK _ ?_;clear hK K) | (apply Exists.intro;refine ⟨fun ex => ?_,hK _ ?_⟩;(fail);clear hK K)));refine zAQ ?_;simp only [zAT,under,zAZ,and_true,List.nil_append,List.cons_append])
 refine ⟨trivial,fun e => ?_⟩
 have heb:=e.below
 obtain ⟨V5,hV⟩:∃ x:World,x=e.to:=⟨_,rfl⟩
 rw [← hV] at heb ⊢
 clear hV e
 replace CG:=CG.below heb
 replace CW4:=CW4.below heb
 replace CH4:=CH4.below heb
 replace t4:=t4.trans (heb.mono t4.size)
 clear heb w0 h0
 go_wp2_with fail
 go_at_call 234
 refine (zIK g 0 2 (s.size + 10) s.size (List.replicate (s.size + 10) 45) V5 CG (by simp) (by omega) (by omega)).mono ?_
 rintro e W5 ⟨rfl,CG5,k5⟩
 have CW5:=CW4.keepG k5 (by omega)
 have CH5:=CH4.keepG k5 (by omega)
 have t5:Below w.heap.size w W5:=t4.trans (k5.under g0)
 clear CG CW4 CH4 t4 k5
 have w1:=CW5.cell 0
 have h1:=CH5.cell 1
 simp at w1 h1
 replace lw:=CW5.lt
 replace lh:=CH5.lt
 go_upto_region 5 with fail
 (refine zAD 9 [] [9] 47 [true,true,true,true,true,true,true,true,true] [] (by kernel_rfl) (by kernel_rfl) rfl zAR ?_;simp only [zAU,List.filterMap_cons,List.filterMap_nil,zzH,zzI,zzJ];(repeat (refine zAM _ rfl (fun w => (by go_simp;rfl)) ?_));refine zAS ?_;simp only [zAF,zAt,Act.put,zzG,zzE,zzF,zzA,zzB,zzC,zzD];(repeat (refine zAL (fun K hK => ?_);go_simp;first | (refine hK _ ?_;clear hK K) | (apply Exists.intro;refine ⟨fun ex => ?_,hK _ ?_⟩;(exact zGo _);clear hK K)));refine zAQ ?_;simp only [zAT,under,zAZ,and_true,List.nil_append,List.cons_append])
 refine ⟨trivial,fun e => ?_⟩
 have heb:=e.below
 obtain ⟨V6,hV⟩:∃ x:World,x=e.to:=⟨_,rfl⟩
 rw [← hV] at heb ⊢
 clear hV e
 replace CG5:=CG5.below heb
 replace t5:=t5.trans (heb.mono t5.size)
 have hln1:(zDb (List.replicate (s.size + 10) 45) 0 s.size 2).length=s.size + 10:=by simp [zDb,zCC];omega
 clear heb w1 h1 CW5 CH5
 go_wp2_with fail
 go_at_call 234
 refine (zIK g 3 5 (s.size + 10 - 3) c _ V6 CG5 (by rw [hln1];omega) (by omega) (by omega)).mono ?_
 rintro e W6 ⟨rfl,CG6,k6⟩
 have t6:Below w.heap.size w W6:=t5.trans (k6.under g0)
 obtain ⟨l6,hl6⟩:∃ l,zDb (zDb (List.replicate (s.size + 10) 45) 0 s.size 2) 3 c 5=l:=⟨_,rfl⟩
 have hln6:l6.length=s.size + 10:=by rw [← hl6,zDb,List.length_append,List.length_append,List.length_take,List.length_drop,zCC,hln1];omega
 rw [hl6] at CG6
 have H6:=Lib.hid hl6
 clear hl6 CG5 t5 k6 hln1
 go_wp2_with fail
 go_at_call 179
 refine (zGo _).mono ?_
 rintro e W7 ⟨rfl,b7⟩
 have C7:=CG6.below b7
 have t7:Below w.heap.size w W7:=t6.trans (b7.mono t6.size)
 clear CG6 t6 b7
 have cp:=Lib.run_copy_row_string (P:=Tryz.prog) W7 128 9 3 5 g 9 (s.size + 1) (s.size + 1) s (zBL l6) 5 Tryz.underlying128 (by kernel_rfl) C7 (by omega) (by rw [zCV,hln6];omega)
 obtain ⟨W8,hW8⟩:∃ x:World,x=W7.setRow g ((zBL l6).toList.take 9 ++ Lib.byteCells s.data.toList ++ (zBL l6).toList.drop (9 + s.size)).toArray:=⟨_,rfl⟩
 have hrow:((zBL l6).toList.take 9 ++ Lib.byteCells s.data.toList ++ (zBL l6).toList.drop (9 + s.size)).toArray=zBL (l6.take 9 ++ s.data.toList ++ l6.drop (9 + s.size)):=by
  unfold zBL Lib.byteCells
  simp [List.map_take,List.map_drop]
 have C8:Cells W8 g (zBL (l6.take 9 ++ s.data.toList ++ l6.drop (9 + s.size))) 5:=by rw [hW8,hrow];exact C7.row _
 have k8:KeepG g W7 W8:=by rw [hW8];exact (KeepG.refl C7.lt).row _
 have t8:Below w.heap.size w W8:=t7.trans (k8.under g0)
 rw [← hW8] at cp
 clear hW8 hrow C7 t7 k8
 have hlen:(l6.take 9 ++ s.data.toList ++ l6.drop (9 + s.size)).length=s.size + 10:=by simp [hln6,hsz];omega
 have iw9:IntKind.i64.wrap ((s.size:Int) + 9)=(s.size:Int) + 9:=IntWalk.i64_in _ (by omega)
 have iw9' : IntKind.i64.wrap ((s.size:Int) + 10 - 1)=(s.size:Int) + 9:=by rw [IntWalk.i64_in _ (by omega)];omega
 obtain ⟨u,hu⟩:∃ u,(zBL (l6.take 9 ++ s.data.toList ++ l6.drop (9 + s.size)))[s.size + 9]?=some u:=⟨_,Array.getElem?_eq_getElem (by rw [zCV,hlen];omega)⟩
 have cu:=C8.cell (s.size + 9)
 rw [hu] at cu
 have fu:=C8.frozen (s.size + 9)
 have l8:=C8.lt
 have hp0:(0:Int)≤(s.size:Int) + 9:=by omega
 have hp1:((s.size:Int) + 9).toNat=s.size + 9:=by omega
 go_wp2_with fail
 go_ret
 refine ⟨⟨g,?_,g0,?_⟩,?_⟩
 ·simp
 ·have:=C8.set (s.size + 9) (.int .u8 (((10:UInt8).toNat:Nat):Int))
  rw [zGi,← H6.out,← Hc.out,← hsz,zLi] at this
  rw [← hsz];exact this
 ·exact t8.setCell g0 _
def zDB (l:List UInt8):List Value:=l.map fun b => Value.int .u8 (b.toNat:Int)
theorem zLD (l:List UInt8):(zDB l).length=l.length:=List.length_map _
theorem zLE (l r:List UInt8):zDB (l ++ r)=zDB l ++ zDB r:=List.map_append
theorem zLC (l:List UInt8):∀ v ∈ zDB l,v.oneCell'=true:=fun v hv => by
 obtain ⟨b,_,rfl⟩:=List.mem_map.1 hv;rfl
theorem zJL (l:List UInt8):(zBL l).toList=zDB l:=by simp [zBL,zDB]
def zG9 (l:List ByteArray):List (List UInt8):=l.map fun s => s.data.toList
def zDT (l:List ByteArray):List UInt8:=zHL (zG9 l) 0
theorem zHg {l:List ByteArray} (hs:∀ s ∈ l,s.size≤80) (k:Nat):zIe (zG9 (l.take k))≤90 * k:=by
 induction k generalizing l with
 | zero => simp [zG9,zIe]
 | succ k ih =>
  cases l with
  | nil => simp [zG9,zIe]
  | cons s l =>
   have h1:=ih (l:=l) fun x hx => hs x (List.mem_cons_of_mem _ hx)
   have h2:=hs s List.mem_cons_self
   have h3:s.data.toList.length=s.size:=Array.length_toList
   simp only [zzA,zG9,List.map_cons,zIe] at h1 ⊢
   omega
theorem zMi {l:List ByteArray} {k:Nat} (h:k < l.length):zDT (l.take (k + 1))=zDT (l.take k) ++ recL (l[k].data.toList) k:=by
 unfold zDT zG9
 rw [List.take_succ_eq_append_getElem h,List.map_append,zON]
 simp only [List.map_cons,List.map_nil,zHL,List.append_nil,List.length_map,List.length_take]
 rw [show 0 + min k l.length=k by omega]
theorem zOO (a:Option Addr) (c:Nat) (l:List ByteArray) (w:World) (hl:zAs w a l) (hn:l.length≤1000) (hs:∀ s ∈ l,s.size≤80) :
  Calls Tryz.prog 122 #[.slice a l.length c] w fun e w' => (∃ ae ce,e=.returned (.slice ae (zDT l).length ce)∧OwnL 5 1 w.heap.size w' ae ce (zDT l).length (zDB (zDT l)))∧Below w.heap.size w w':=by
 go_enter Tryz.func122,Tryz.ntmps122
 go_wp2
 go_loopw [2,3,4,7] (fun b _ _ i X => ∃ (k:Nat) (ae:Option Addr) (ce:Nat),k≤l.length∧i=.int .i64 k∧b=.slice ae (zDT (l.take k)).length ce∧OwnL 5 1 w.heap.size X ae ce (zDT (l.take k)).length (zDB (zDT (l.take k)))∧Below w.heap.size w X) (fun _ _ _ i _ => l.length - (intOf i).toNat)
 case atStart => exact ⟨0,none,0,Nat.zero_le _,rfl,rfl,OwnL.nil _ _ _ _,Below.refl _ _⟩
 case round =>
  obtain ⟨k,ae,ce,hk,rfl,rfl,own,hb⟩:=hrel
  by_cases hlt:k < l.length
  ·have hltI:(k:Int) < (l.length:Int):=by omega
   have hk0:(0:Int)≤(k:Int):=by omega
   have iw:IntKind.i64.wrap ((k:Int) + 1)=(k:Int) + 1:=IntWalk.i64_in _ (by omega)
   obtain ⟨b,off,rfl,hbl,hc⟩:=hl k hlt
   have hc' : wr.cell? ⟨b,off + k,none⟩=some (.string l[k]):=(hb.cell (p:=⟨b,off + k,none⟩) hbl).trans hc
   clear hc
   have hsz:=hs _ (List.getElem_mem hlt)
   have hft:=zMi hlt
   have hfl:(zDT (l.take k)).length≤90 * k:=by unfold zDT;rw [zOM];exact zHg hs k
   have hsl:(l[k].data.toList).length=l[k].size:=Array.length_toList
   generalize l[k]=s at hc' hsz hft hsl
   generalize hF:zDT (l.take k)=Fk at own hft hfl
   have HF:=Lib.hid hF
   have Hft:=Lib.hid hft
   clear hft hF
   have hrl:=zLh s.data.toList k
   go_wp2_with fail
   go_at_call 177
   refine (zKU s k wr (by omega) (by omega)).mono ?_
   rintro e w1 ⟨⟨gg,rfl,hgg,CG⟩,hb1⟩
   have hsrc:=CG.src
   rw [zJL] at hsrc
   go_wp2_with (at_builtin;refine zFW zQN rfl _ _ rfl w.heap.size ae Fk.length ce _ rfl (own.kept hb1) gg (s.size + 10) (s.size + 10) (zDB (recL s.data.toList k)) rfl ?c1 hsrc (zLC _) ?c2 ?c3 ?c4 ?_)
   case c1 => rw [zLD,hrl];omega
   case c2 => unfold maxLen;omega
   case c3 => omega
   case c4 => exact Nat.le_trans hb.size hb1.size
   intro a' c' w2 own2 b2 _
   have e2:Fk.length + (s.size + 10)=(zDT (l.take (k + 1))).length:=by rw [Hft.out,List.length_append,hrl];omega
   go_wp2_with fail
   go_round
   case rel =>
    refine ⟨k + 1,a',c',by omega,by go_num,by rw [← e2],?_,hb.trans ((hb1.mono hb.size).trans b2)⟩
    rw [← e2,Hft.out,zLE];exact own2
   case measure => simp [intOf];omega
  ·obtain rfl:k=l.length:=by omega
   rw [List.take_length] at own
   simp only [List.take_length]
   go_wp2
   go_ret
   exact ⟨⟨ae,ce,rfl,own⟩,hb⟩
def zNZ (B:Nat) (l:List ByteArray) (e:Ending) (w' : World):Prop :=
 (zBF l=0∧∃ ae ce,e=.returned (.tuple #[.slice ae (zDT l).length ce,.int .i64 0])∧OwnL 5 1 B w' ae ce (zDT l).length (zDB (zDT l)))∨(zBF l=3∧e=.returned (.tuple #[.slice none 0 0,.int .i64 3]))
theorem zNY (a:Option Addr) (c:Nat) (l:List ByteArray) (w:World) (hl:zAs w a l) (hn:l.length≤9223372036854775807) :
  Calls Tryz.prog 66 #[.slice a l.length c] w fun e w' => zNZ w.heap.size l e w'∧Below w.heap.size w w':=by
 have chk:=zET a c l w hl hn
 go_enter Tryz.func66,Tryz.ntmps66
 go_wp2_with fail
 go_at_call 81
 refine chk.mono ?_
 rintro e w1 ⟨rfl,hb⟩
 rcases zFN l with h0 | h0
 ·rw [h0]
  have H0:=Lib.hid h0
  clear h0
  obtain ⟨h50,hs⟩:=zFM H0.out
  go_wp2_with fail
  go_at_call 122
  refine (zOO a c l w1 (hl.below hb) (by omega) hs).mono ?_
  rintro e w2 ⟨⟨ae,ce,rfl,own⟩,hb2⟩
  go_wp2
  go_ret2
  exact ⟨.inl ⟨H0.out,ae,ce,rfl,own.base_le hb.size⟩,hb.trans (hb2.mono hb.size)⟩
 ·rw [h0]
  have H0:=Lib.hid h0
  clear h0
  go_wp2
  go_ret2
  exact ⟨.inr ⟨H0.out,rfl⟩,hb⟩
open Go.RowKit Go.Flow Go.Shelf
theorem zPy:Go.Proofs.Lays.n166 Tryz.prog Tryz.lays156_ren:={
 mixed:=Tryz.lays156.mixed
 f166:=Tryz.lays156.f166
 f240:=Tryz.lays156.f240
 f276:=Tryz.lays156.f276
 t0:=Tryz.lays156.t0
 a0:=Tryz.lays156.a0
 z0:=Tryz.lays156.z0
 v0:=Tryz.lays156.v0
 t3:=Tryz.lays156.t3
 a3:=Tryz.lays156.a3
 z3:=Tryz.lays156.z3
 v3:=Tryz.lays156.v3
 t4:=Tryz.lays156.t4
 a4:=Tryz.lays156.a4
 z4:=Tryz.lays156.z4
 v4:=Tryz.lays156.v4
 t9:=Tryz.lays156.t9
 a9:=Tryz.lays156.a9
 z9:=Tryz.lays156.z9
 v9:=Tryz.lays156.v9
 t20:=Tryz.lays156.t20
 a20:=Tryz.lays156.a20
 z20:=Tryz.lays156.z20
 v20:=Tryz.lays156.v20
 t37:=Tryz.lays156.t37
 a37:=Tryz.lays156.a37
 z37:=Tryz.lays156.z37
 v37:=Tryz.lays156.v37
 t70:=Tryz.lays156.t70
 a70:=Tryz.lays156.a70
 z70:=Tryz.lays156.z70
 v70:=Tryz.lays156.v70
 t72:=Tryz.lays156.t72
 a72:=Tryz.lays156.a72
 z72:=Tryz.lays156.z72
 v72:=Tryz.lays156.v72
 t75:=Tryz.lays156.t75
 a75:=Tryz.lays156.a75
 z75:=Tryz.lays156.z75
 v75:=Tryz.lays156.v75
 t164:=Tryz.lays156.t164
 a164:=Tryz.lays156.a164
 z164:=Tryz.lays156.z164
 v164:=Tryz.lays156.v164 }
theorem zLU (B b:Nat) (bs:List UInt8) (s:ByteArray) (w:World) (h:Lib.IsBuilderF 207 5 B b (Lib.byteCells bs) w) (hlen:bs.length + s.size≤140737488355328) (hBw:B≤w.heap.size) :
  Calls Tryz.prog 107 #[.pointer (some ⟨b,0,none⟩),.string s] w fun e w' => e=.returned (.tuple #[.int .i64 s.size,.nilIface])∧Lib.IsBuilderF 207 5 B b (Lib.byteCells (bs ++ s.data.toList)) w'∧Below B w w'∧Lib.OthersKept 5 (some b) w w':=by
 have hl:(Lib.byteCells bs).length=bs.length:=Lib.byteCells_length bs
 refine (Any.Builder_WriteString_k zPy Tryz.Builder_Extra_156 B b (Lib.byteCells bs) s w h (by rw [hl];exact hlen) hBw).mono ?_
 rintro e w' ⟨rfl,h1,h2,h3⟩
 refine ⟨rfl,?_,h2,h3⟩
 have e:Lib.byteCells (bs ++ s.data.toList)=Lib.byteCells bs ++ Lib.strCells s:=by unfold Lib.byteCells Lib.strCells;rw [List.map_append]
 rw [e]
 exact .inr h1
end Go.Proofs.YticjeianiahppaaGreatDoor
