/- The session book: contracts of the program and of the laws' helpers, joined (Nc, Nd). -/
import Derived.Test.YticjeianiahppaaGreatDoorBW
set_option linter.unusedVariables false
set_option linter.unusedSimpArgs false
set_option linter.unnecessarySimpa false
set_option maxRecDepth 100000
set_option maxHeartbeats 40000000
namespace Go.Proofs.YticjeianiahppaaGreatDoor
open Go.RowKit Go.Flow
theorem zKc {w:World} {b:Nat} {v0 v1 v2 v3:Value} {T:TypeId} (h:Cells w b #[v0,v1,v2,v3] T):(loadVar 124 ⟨b,0,none⟩).run Tryz.prog w=.ok (.agg #[v0,v1,v2,v3]) w:=by
 have hi:=Tryz.isAgg124
 have hz:=Tryz.sizeOf124
 have k0:=h.cell 0
 have k1:=h.cell 1
 have k2:=h.cell 2
 have k3:=h.cell 3
 simp at k0 k1 k2 k3
 unfold loadVar
 go_simp
theorem zNC (S:BSt) (A:Adr) (w:World):Calls Tryz.prog 100 #[.agg (zAW S A)] w fun e w' => e=.returned (.agg #[.int .i64 S.size,.int .i64 S.words,.slice A.ak S.keys.length A.ck,.slice A.ad S.days.length A.cd])∧Below w.heap.size w w':=by
 go_enter Tryz.func100,Tryz.ntmps100
 go_wp2
 exact bodyPost_ret (zBR rfl rfl (zKc (Cells.new' _ _ _ _ (by simp)))) rfl ⟨rfl,((Below.refl _ _).alloc (Nat.le_refl _) _).alloc (by simp) _⟩
def zBU (l:List ByteArray):Int:=if zBF l≠0 then 3 else if (zAV l).days=[] then 7 else 0
def zAq (l:List ByteArray):List Int:=if zBU l=0 then Cph.zMp (zAV l).days (zAV l).lost else []
def zBk (l:List ByteArray):Int:=if zBF l≠0 then 3 else if (zAV l).post.sends=[]∨(zAV l).post.routes=[] then 7 else 0
def zC0 (l:List ByteArray):List (Int × Int):=if zBk l=0 then Cps.zDw (zAV l).post else []
def zDv (l:List ByteArray):List Int:=if zBk l=0 then Cps.zF3 (zAV l).post else []
def zEw (l:List ByteArray):Int:=if zBF l≠0 then 3 else if (zAV l).ds=[] then 7 else 0
def zEE (l:List ByteArray):List (Int × Int):=if zEw l=0 then Pay.zLG (zAV l).acc else []
theorem zDX (l:List ByteArray):Val (zAV l):=zN5 Val.begun l
theorem zCW (l:List ByteArray):Few (zAV l):=zHM Few.begun l
theorem zKb {S:BSt} (V:Val S) (F:Few S) (h:S.days≠[]):Cph.zDO S.size S.words S.keys S.days S.lost=0:=by
 have h1:=V.book F h
 have h2:=F.lost
 unfold Cph.zDO
 rw [if_neg (by simpa using h1),if_neg (by omega),if_neg]
 rw [Bool.not_eq_false,List.all_eq_true]
 intro x hx
 have:=V.codes.lost x hx
 simp only [Cph.zHy,Cph.zHr,Bool.and_eq_true,decide_eq_true_eq]
 exact this
def RetI (E:Int) (l:List Int) (e:Ending) (w' : World):Prop:=∃ a c,e=.returned (.tuple #[.slice a l.length c,.int .i64 E])∧IntsAt w' a l
def RetR (E:Int) (l:List (Int × Int)) (e:Ending) (w' : World):Prop:=∃ a c,e=.returned (.tuple #[.slice a l.length c,.int .i64 E])∧zAX w' a l
def zQ6 (n:Nat) (E:Int) (l:List (Int × Int)) (e:Ending) (w' : World):Prop:=∃ a c,e=.returned (.tuple #[.slice a l.length c,.int .i64 E])∧OwnL 103 2 n w' a c l.length (Pay.zBx l)
def zQ8 (n:Nat) (E:Int) (l:List Int) (e:Ending) (w' : World):Prop:=∃ a c,e=.returned (.tuple #[.slice a l.length c,.int .i64 E])∧OwnL 3 1 n w' a c l.length (l.map (Value.int .i64))
def ExpV (n:Nat) (l:List Int) (v:Value) (w:World):Prop:=∃ a c,v=.tuple #[.slice a l.length c,.int .i64 0]∧OwnL 3 1 n w a c l.length (l.map (Value.int .i64))
theorem ExpV.kept {n:Nat} {l:List Int} {v:Value} {w w' : World} (h:ExpV n l v w) (hb:Below w.heap.size w w'):ExpV n l v w':=let ⟨a,c,h1,h2⟩:=h;⟨a,c,h1,h2.kept hb⟩
def SlV (n:Nat) (l:List Int) (v:Value) (w:World):Prop:=∃ a c,v=.slice a l.length c∧OwnL 3 1 n w a c l.length (l.map (Value.int .i64))
theorem SlV.kept {n:Nat} {l:List Int} {v:Value} {w w' : World} (h:SlV n l v w) (hb:Below w.heap.size w w'):SlV n l v w':=let ⟨a,c,h1,h2⟩:=h;⟨a,c,h1,h2.kept hb⟩
def ErV (E:Int) (v:Value) (_:World):Prop:=v=.int .i64 E
theorem ErV.kept {E:Int} {v:Value} {w w' : World} (h:ErV E v w) (_:Below w.heap.size w w'):ErV E v w':=h
theorem zJT (a:Option Addr) (c:Nat) (l:List ByteArray) (w:World) (hl:zAs w a l) (hn:l.length≤9223372036854775807) (hv:Vars w) :
  Calls Tryz.prog 45 #[.slice a l.length c] w fun e w' => zQ8 w.heap.size (zBU l) (zAq l) e w'∧Below w.heap.size w w':=by
 have rd:=zGq a c l w hl hn hv
 obtain ⟨E,hE⟩:∃ E,zBU l=E:=⟨_,rfl⟩
 obtain ⟨X,hX⟩:∃ X,zAq l=X:=⟨_,rfl⟩
 rw [hE,hX]
 have HE:=Lib.hid hE
 have HX:=Lib.hid hX
 clear hE hX
 go_enter Tryz.func45,Tryz.ntmps45
 go_wp2_with fail
 go_at_call 84
 refine rd.mono ?_
 rintro e W1 ⟨⟨h0,A,rfl,L1⟩ | ⟨h0,rfl⟩,b1⟩
 ·have H0:=Lib.hid h0
  clear h0
  have V:=zDX l
  have F:=zCW l
  generalize hS:zAV l=S at L1 V F
  have HS:=Lib.hid hS
  clear hS
  by_cases h7:S.days.length=0
  ·have h7b:((S.days.length:Int) == 0)=true:=by simp [h7]
   have h7c:S.days=[]:=List.eq_nil_of_length_eq_zero h7
   go_wp2_with fail
   go_ret2
   have e1:zBU l=7:=by unfold zBU;rw [H0.out,if_neg (by simp),HS.out,if_pos h7c]
   have e3:zAq l=[]:=by unfold zAq;rw [e1,if_neg (by decide)]
   obtain rfl:E=7:=HE.out.symm.trans e1
   obtain rfl:X=[]:=HX.out.symm.trans e3
   exact ⟨⟨none,0,rfl,OwnL.nil _ _ _ _⟩,b1.trans ((Below.refl _ _).alloc (Nat.le_refl _) _ |>.mono b1.size)⟩
  have h7b:((S.days.length:Int) == 0)=false:=by rw [beq_eq_false_iff_ne];omega
  have h7c:S.days≠[]:=fun e => h7 (by rw [e];rfl)
  have hle:=zKb V F h7c
  have hx:=Cph.zOs S.size S.words A.ak S.keys A.ck A.ad S.days A.cd A.al S.lost A.cl
  have e2:Cph.zMq S.size S.words S.keys S.days S.lost=Cph.zMp S.days S.lost:=by unfold Cph.zMq;rw [if_pos hle]
  rw [hle,e2] at hx
  have e1:zBU l=0:=by unfold zBU;rw [H0.out,if_neg (by simp),HS.out,if_neg h7c]
  have e3:zAq l=Cph.zMp S.days S.lost:=by unfold zAq;rw [if_pos e1,HS.out]
  obtain rfl:E=0:=HE.out.symm.trans e1
  obtain rfl:X=Cph.zMp S.days S.lost:=HX.out.symm.trans e3
  clear e1 e2 e3 hle HE HX
  have fk:=F.keys
  have fd:=F.days
  have fl:=F.lost
  have hk:=L1.keys.atK
  have hd:=L1.days.atI
  have hlo:=L1.lost.atP
  clear L1 V F h7c
  go_upto_region 4 with fail
  obtain ⟨W2,hW⟩:∃ x:World,x=W1.alloc (.cells (zAW S A) 57):=⟨_,rfl⟩
  have hb2:Below W1.heap.size W1 W2:=by rw [hW];exact Joins.below_alloc1 _ _
  have C2:Cells W2 W1.heap.size (zAW S A) 57:=by rw [hW];exact Cells.new _ _ _
  rw [← hW]
  clear hW
  have b2:=b1.trans (hb2.mono b1.size)
  have q0:=C2.cell 0
  have q1:=C2.cell 1
  have q2:=C2.cell 2
  have q3:=C2.cell 3
  have q4:=C2.cell 4
  have q5:=C2.cell 5
  have q6:=C2.cell 6
  have q7:=C2.cell 7
  have q8:=C2.cell 8
  have q9:=C2.cell 9
  have q10:=C2.cell 10
  have q11:=C2.cell 11
  have q12:=C2.cell 12
  simp at q0 q1 q2 q3 q4 q5 q6 q7 q8 q9 q10 q11 q12
  have lg:=C2.lt
  go_upto_region 6 with fail
  (refine zAD 7 [] [7,8] 27 [true,true,true,true,false,false,false] [ExpV w.heap.size (Cph.zMp S.days S.lost),SlV w.heap.size (Cph.zMp S.days S.lost),ErV 0] (by kernel_rfl) (by kernel_rfl) rfl (zAB (fun v w w' h hb => h.kept hb) (zAB (fun v w w' h hb => h.kept hb) (zAB (fun v w w' h hb => h.kept hb) zAR))) ?_;simp only [zAU,List.filterMap_cons,List.filterMap_nil,zzH,zzI,zzJ];(repeat (refine zAM _ rfl (fun w => (by go_simp;rfl)) ?_));refine zAS ?_;simp only [zAF,zAt,Act.put,zzG,zzE,zzF,zzA,zzB,zzC,zzD];(repeat (refine zAL (fun K hK => ?_);go_simp;first | (refine hK _ ?_;clear hK K) | (apply Exists.intro;refine ⟨fun ex => ?_,hK _ ?_⟩;(exact zNC S A _);clear hK K)));refine zAQ ?_;simp only [zAT,under,zAZ,and_true,List.nil_append,List.cons_append])
  refine ⟨⟨fun e => ?_,fun e v1 h1 => ?_,fun e v1 h1 v2 h2 => ?_⟩,fun e => ?_⟩
  ·go_simp
   refine (hx e.to (hk.below (hb2.trans (e.below.mono hb2.size))) (hd.below (hb2.trans (e.below.mono hb2.size))) (by omega) (by omega) (hlo.below (hb2.trans (e.below.mono hb2.size))) (by omega)).mono ?_
   rintro _ _ ⟨⟨a',c',rfl,o⟩,b⟩
   exact ⟨b,a',c',rfl,o.base_le (Nat.le_trans b2.size e.size)⟩
  ·obtain ⟨a',c',rfl,hi⟩:=h1 (by kernel_rfl)
   go_simp
   exact ⟨Below.refl _ _,a',c',rfl,hi⟩
  ·obtain ⟨a',c',rfl,hi⟩:=h1 (by kernel_rfl)
   go_simp
   exact ⟨Below.refl _ _,rfl⟩
  rintro v1 - v2 ⟨a2,c2,rfl,hi⟩ v3 rfl
  simp only [Act.put,zzG,zzE,zzF]
  have heb:=e.below
  obtain ⟨V,hV⟩:∃ x:World,x=e.to:=⟨_,rfl⟩
  rw [← hV] at heb hi ⊢
  clear hV e
  go_wp2
  go_ret2
  exact ⟨⟨a2,c2,rfl,hi⟩,b2.trans (heb.mono b2.size)⟩
 ·have H0:=Lib.hid h0
  clear h0
  go_wp2_with fail
  go_ret2
  have e1:zBU l=3:=by unfold zBU;rw [H0.out,if_pos (by decide)]
  have e3:zAq l=[]:=by unfold zAq;rw [e1,if_neg (by decide)]
  obtain rfl:E=3:=HE.out.symm.trans e1
  obtain rfl:X=[]:=HX.out.symm.trans e3
  exact ⟨⟨none,0,rfl,OwnL.nil _ _ _ _⟩,b1.trans ((Below.refl _ _).alloc (Nat.le_refl _) _ |>.mono b1.size)⟩
theorem zGG (a:Option Addr) (c:Nat) (l:List ByteArray) (w:World) (hl:zAs w a l) (hn:l.length≤9223372036854775807) (hv:Vars w) :
  Calls Tryz.prog 45 #[.slice a l.length c] w fun e w' => RetI (zBU l) (zAq l) e w'∧Below w.heap.size w w':=(zJT a c l w hl hn hv).mono fun _ _ h => let ⟨⟨a,c,h1,h2⟩,h4⟩:=h;⟨⟨a,c,h1,h2.ints.1⟩,h4⟩
def zPp (E:Int) (x:List (Int × Int)) (y:List Int) (e:Ending) (w' : World):Prop:=∃ a c b d,e=.returned (.tuple #[.slice a x.length c,.slice b y.length d,.int .i64 E])∧zAX w' a x∧IntsAt w' b y
def zOk (n:Nat) (E:Int) (x:List (Int × Int)) (y:List Int) (e:Ending) (w' : World):Prop:=∃ a c b d,e=.returned (.tuple #[.slice a x.length c,.slice b y.length d,.int .i64 E])∧OwnL 70 2 n w' a c x.length (Cps.zBx x)∧OwnL 3 1 n w' b d y.length (y.map (Value.int .i64))
theorem zLS (a:Option Addr) (c:Nat) (l:List ByteArray) (w:World) (hl:zAs w a l) (hn:l.length≤9223372036854775807) (hv:Vars w) :
  Calls Tryz.prog 29 #[.slice a l.length c] w fun e w' => zOk w.heap.size (zBk l) (zC0 l) (zDv l) e w'∧Below w.heap.size w w':=by
 have rd:=zGq a c l w hl hn hv
 obtain ⟨E,hE⟩:∃ E,zBk l=E:=⟨_,rfl⟩
 obtain ⟨X,hX⟩:∃ X,zC0 l=X:=⟨_,rfl⟩
 obtain ⟨Y,hY⟩:∃ Y,zDv l=Y:=⟨_,rfl⟩
 rw [hE,hX,hY]
 have HE:=Lib.hid hE
 have HX:=Lib.hid hX
 have HY:=Lib.hid hY
 clear hE hX hY
 have nothing:∀ n:Int,n≠0→zBk l=n→E=n∧X=[]∧Y=[]:=fun n h1 h2 => by
  refine ⟨HE.out.symm.trans h2,?_,?_⟩
  ·rw [← HX.out];unfold zC0;rw [h2,if_neg h1]
  ·rw [← HY.out];unfold zDv;rw [h2,if_neg h1]
 go_enter Tryz.func29,Tryz.ntmps29
 go_wp2_with fail
 go_at_call 84
 refine rd.mono ?_
 rintro e W1 ⟨⟨h0,A,rfl,L1⟩ | ⟨h0,rfl⟩,b1⟩
 ·have H0:=Lib.hid h0
  clear h0
  have V:=zDX l
  have F:=zCW l
  generalize hS:zAV l=S at L1 V F
  have HS:=Lib.hid hS
  clear hS
  have none_:(S.post.sends=[]∨S.post.routes=[])→E=7∧X=[]∧Y=[]:=fun h => nothing 7 (by decide) (by unfold zBk;rw [H0.out,if_neg (by simp),HS.out,if_pos h])
  have fin:∀ W',Below W1.heap.size W1 W'→Below w.heap.size w W':=fun W' h => b1.trans (h.mono b1.size)
  by_cases h7:S.post.sends.length=0
  ·have h7b:((S.post.sends.length:Int) == 0)=true:=by simp [h7]
   obtain ⟨rfl,rfl,rfl⟩:=none_ (.inl (List.eq_nil_of_length_eq_zero h7))
   go_wp2_with fail
   go_ret3
   exact ⟨⟨none,0,none,0,rfl,OwnL.nil _ _ _ _,OwnL.nil _ _ _ _⟩,fin _ ((Below.refl _ _).alloc (Nat.le_refl _) _)⟩
  have h7b:((S.post.sends.length:Int) == 0)=false:=by rw [beq_eq_false_iff_ne];omega
  have h7c:S.post.sends≠[]:=fun e => h7 (by rw [e];rfl)
  by_cases h8:S.post.routes.length=0
  ·have h8b:((S.post.routes.length:Int) == 0)=true:=by simp [h8]
   obtain ⟨rfl,rfl,rfl⟩:=none_ (.inr (List.eq_nil_of_length_eq_zero h8))
   go_wp2_with fail
   go_ret3
   exact ⟨⟨none,0,none,0,rfl,OwnL.nil _ _ _ _,OwnL.nil _ _ _ _⟩,fin _ ((Below.refl _ _).alloc (Nat.le_refl _) _)⟩
  have h8b:((S.post.routes.length:Int) == 0)=false:=by rw [beq_eq_false_iff_ne];omega
  have h8c:S.post.routes≠[]:=fun e => h8 (by rw [e];rfl)
  have hp:=V.posted F h7c h8c
  have e1:zBk l=0:=by unfold zBk;rw [H0.out,if_neg (by simp),HS.out,if_neg (by simp [h7c,h8c])]
  obtain rfl:E=0:=HE.out.symm.trans e1
  obtain rfl:X=Cps.zDw S.post:=by rw [← HX.out];unfold zC0;rw [if_pos e1,HS.out]
  obtain rfl:Y=Cps.zF3 S.post:=by rw [← HY.out];unfold zDv;rw [if_pos e1,HS.out]
  clear nothing none_ HE HX HY e1 h7c h8c
  have sp:=fun W (b:Below W1.heap.size W1 W) => Cps.zQY A.as_ A.cs A.ar A.cr S.post W (L1.sends.atI.below b) (L1.routes.atR.below b) F.small
  have su:=fun W (b:Below W1.heap.size W1 W) => Cps.zPw A.as_ A.cs A.ar A.cr S.post W (L1.sends.atI.below b) (L1.routes.atR.below b) F.small
  rw [hp] at sp su
  clear hp V
  go_upto_region 4 with fail
  obtain ⟨W2,hW⟩:∃ x:World,x=W1.alloc (.cells (zAW S A) 57):=⟨_,rfl⟩
  have hb2:Below W1.heap.size W1 W2:=by rw [hW];exact Joins.below_alloc1 _ _
  have C2:Cells W2 W1.heap.size (zAW S A) 57:=by rw [hW];exact Cells.new _ _ _
  rw [← hW]
  clear hW
  have b2:=b1.trans (hb2.mono b1.size)
  have q5:=C2.cell 5
  have q6:=C2.cell 6
  have q7:=C2.cell 7
  simp at q5 q6 q7
  have lg:=C2.lt
  go_wp2_with fail
  go_at_call 30
  refine (sp W2 hb2).mono ?_
  rintro e W3 ⟨⟨a3,c3,rfl,r3⟩,hb3⟩
  have q5':=zAA hb3 q5
  have q6':=zAA hb3 q6
  have q7':=zAA hb3 q7
  have lg3:=Nat.lt_of_lt_of_le lg hb3.size
  go_wp2_with fail
  go_at_call 32
  refine (su W3 (hb2.trans (hb3.mono hb2.size))).mono ?_
  rintro e W4 ⟨⟨a4,c4,rfl,r4⟩,hb4⟩
  go_wp2_with fail
  go_ret3
  exact ⟨⟨a3,c3,a4,c4,rfl,(r3.kept hb4).base_le b2.size,r4.base_le (Nat.le_trans b2.size hb3.size)⟩,b2.trans ((hb3.mono b2.size).trans (hb4.mono (Nat.le_trans b2.size hb3.size)))⟩
 ·obtain ⟨rfl,rfl,rfl⟩:=nothing 3 (by decide) (by unfold zBk;rw [h0,if_pos (by decide)])
  clear h0 nothing HE HX HY
  go_wp2_with fail
  go_ret3
  exact ⟨⟨none,0,none,0,rfl,OwnL.nil _ _ _ _,OwnL.nil _ _ _ _⟩,b1.trans ((Below.refl _ _).alloc (Nat.le_refl _) _ |>.mono b1.size)⟩
theorem zGl (a:Option Addr) (c:Nat) (l:List ByteArray) (w:World) (hl:zAs w a l) (hn:l.length≤9223372036854775807) (hv:Vars w) :
  Calls Tryz.prog 29 #[.slice a l.length c] w fun e w' => zPp (zBk l) (zC0 l) (zDv l) e w'∧Below w.heap.size w w':=(zLS a c l w hl hn hv).mono fun _ _ h => let ⟨⟨a,c,b,d,h1,h2,h3⟩,h4⟩:=h;⟨⟨a,c,b,d,h1,h2.recs2,h3.ints.1⟩,h4⟩
theorem zOj (a:Option Addr) (c:Nat) (l:List ByteArray) (w:World) (hl:zAs w a l) (hn:l.length≤9223372036854775807) (hv:Vars w) :
  Calls Tryz.prog 50 #[.slice a l.length c] w fun e w' => zQ6 w.heap.size (zEw l) (zEE l) e w'∧Below w.heap.size w w':=by
 have rd:=zGq a c l w hl hn hv
 obtain ⟨E,hE⟩:∃ E,zEw l=E:=⟨_,rfl⟩
 obtain ⟨X,hX⟩:∃ X,zEE l=X:=⟨_,rfl⟩
 rw [hE,hX]
 have HE:=Lib.hid hE
 have HX:=Lib.hid hX
 clear hE hX
 have nothing:∀ n:Int,n≠0→zEw l=n→E=n∧X=[]:=fun n h1 h2 => by
  refine ⟨HE.out.symm.trans h2,?_⟩
  rw [← HX.out];unfold zEE;rw [h2,if_neg h1]
 go_enter Tryz.func50,Tryz.ntmps50
 go_wp2_with fail
 go_at_call 84
 refine rd.mono ?_
 rintro e W1 ⟨⟨h0,A,rfl,L1⟩ | ⟨h0,rfl⟩,b1⟩
 ·have H0:=Lib.hid h0
  clear h0
  have V:=zDX l
  have F:=zCW l
  generalize hS:zAV l=S at L1 V F
  have HS:=Lib.hid hS
  clear hS
  have fin:∀ W',Below W1.heap.size W1 W'→Below w.heap.size w W':=fun W' h => b1.trans (h.mono b1.size)
  by_cases h7:S.ds.length=0
  ·have h7b:((S.ds.length:Int) == 0)=true:=by simp [h7]
   obtain ⟨rfl,rfl⟩:=nothing 7 (by decide) (by unfold zEw;rw [H0.out,if_neg (by simp),HS.out,if_pos (List.eq_nil_of_length_eq_zero h7)])
   go_wp2_with fail
   go_ret2
   exact ⟨⟨none,0,rfl,OwnL.nil _ _ _ _⟩,fin _ ((Below.refl _ _).alloc (Nat.le_refl _) _)⟩
  have h7b:((S.ds.length:Int) == 0)=false:=by rw [beq_eq_false_iff_ne];omega
  have h7c:S.ds≠[]:=fun e => h7 (by rw [e];rfl)
  have hp:=V.paid F
  have e1:zEw l=0:=by unfold zEw;rw [H0.out,if_neg (by simp),HS.out,if_neg h7c]
  obtain rfl:E=0:=HE.out.symm.trans e1
  obtain rfl:X=Pay.zLG ⟨7,S.rate,S.keeps,S.ds⟩:=by rw [← HX.out];unfold zEE;rw [if_pos e1,HS.out];rfl
  clear nothing HE HX e1 h7c
  have bd:=fun W (b:Below W1.heap.size W1 W) => Pay.zPx 7 S.rate S.keeps S.ds A.aa A.ca W (L1.ds.atD.below b) ⟨by have:=F.ds;show S.ds.length≤1000;omega,fun d hd => by have:=F.passed d hd;omega⟩ hp
  clear hp V
  go_upto_region 4 with fail
  obtain ⟨W2,hW⟩:∃ x:World,x=W1.alloc (.cells (zAW S A) 57):=⟨_,rfl⟩
  have hb2:Below W1.heap.size W1 W2:=by rw [hW];exact Joins.below_alloc1 _ _
  have C2:Cells W2 W1.heap.size (zAW S A) 57:=by rw [hW];exact Cells.new _ _ _
  rw [← hW]
  clear hW
  have b2:=b1.trans (hb2.mono b1.size)
  have q9:=C2.cell 9
  have q10:=C2.cell 10
  have q11:=C2.cell 11
  have q12:=C2.cell 12
  simp at q9 q10 q11 q12
  have lg:=C2.lt
  go_wp2_with fail
  go_at_call 65
  refine (bd W2 hb2).mono ?_
  rintro e W3 ⟨⟨a3,c3,rfl,r3⟩,hb3⟩
  go_wp2_with fail
  go_ret2
  exact ⟨⟨a3,c3,rfl,r3.base_le b2.size⟩,b2.trans (hb3.mono b2.size)⟩
 ·obtain ⟨rfl,rfl⟩:=nothing 3 (by decide) (by unfold zEw;rw [h0,if_pos (by decide)])
  clear h0 nothing HE HX
  go_wp2_with fail
  go_ret2
  exact ⟨⟨none,0,rfl,OwnL.nil _ _ _ _⟩,b1.trans ((Below.refl _ _).alloc (Nat.le_refl _) _ |>.mono b1.size)⟩
theorem zKD (a:Option Addr) (c:Nat) (l:List ByteArray) (w:World) (hl:zAs w a l) (hn:l.length≤9223372036854775807) (hv:Vars w) :
  Calls Tryz.prog 50 #[.slice a l.length c] w fun e w' => RetR (zEw l) (zEE l) e w'∧Below w.heap.size w w':=(zOj a c l w hl hn hv).mono fun _ _ h => let ⟨⟨a,c,h1,h2⟩,h4⟩:=h;⟨⟨a,c,h1,h2.recs2P⟩,h4⟩
end Go.Proofs.YticjeianiahppaaGreatDoor
